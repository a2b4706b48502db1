/-
 The law of LinkUnits: in every input the program answers as the reference. Conditions: none.
-/
import Derived.Test.YtkkjnfappndmpaaGreatDoorQFold
import Derived.Test.YtkkjnfappndmpaaGreatDoorQaa
import Derived.Test.YtkkjnfappndmpaaGreatDoorTie
import Derived.Test.YtkkjnfappndmpaaGreatDoorCards
import Derived.HandedShaped
import Derived.LaidMore
import Derived.Lay
import Derived.SevenTiedAt
import Derived.Stop.Joined
import Derived.Test.YtkkjnfappndmpaaGreatDoorQbv
set_option linter.unusedVariables false
set_option linter.unusedSimpArgs false
namespace Go.Proofs.YtkkjnfappndmpaaGreatDoor
section
open Go
variable {H : Type} {enc : TypeId × Value → H}
/-- The row's form from a contract: beside the listed variables (X) the world's shape is at hand. -/
theorem handed_both {a : Assume} {C : Checked} {os : Os} {f : FuncId} {fn : Func} {s : ChangeSpec} {conds : List PathCond} {apart fresh handsOn again : Bool} {X : World → Array Value → Prop}
  (own : ownKnob C.prog.godebug = none) (started : os.Started) (noInit : C.prog.inits.idxOf? f = none) (hfn : C.prog.funcs[f]? = some fn)
  (witness : ∃ (w : World) (tape : Tape) (i : Input), w.os = os ∧ (w.forCall tape i).Shaped C.prog ∧ i.vars = [] ∧ Input.okWide C.prog (w.forCall tape i) .any w.heap.size f i ∧
   ((s.pre enc C.prog fn conds apart (w.forCall tape i).memory i.args ∧ X (w.forCall tape i).memory i.args) ∧ sizedMet enc C.prog fn (OpenSpec.ofChange s) apart (w.forCall tape i).memory i.args) ∧ a.holds C.prog (lone (Frame.enter C.prog f i.args .normal) [] (w.forCall tape i)))
  (contract : ∀ (W : World) (base : Nat) (args : Array Value) (ds gs : List (DataW H)) (before : List MemPlace),
   (∀ (j : Nat) t v, fn.params[j]? = some t → args[j]? = some v → Value.okWide C.prog W .any base t v) →
   DataW.Whole enc C.prog fn.params.toList s.vars apart W args.toList ds gs before → W.ShapedOpen C.prog →
   Calls C.prog f args W fun e W' => ∃ v, e = .returned v ∧ s.post enc C.prog fn apart fresh handsOn again W args v W') :
  ReturnsInHanded a C os f .any (fun w args => (s.pre enc C.prog fn conds apart w args ∧ X w args) ∧ sizedMet enc C.prog fn (OpenSpec.ofChange s) apart w args) (s.post enc C.prog fn apart fresh handsOn again) := by
 refine returnsInHanded_of_calls own started noInit witness ?_
 intro w tape i _ hsh _ hok hpre _
 obtain ⟨_, _, _, fn', hfn', _, _, _, _, hval⟩ := hok
 obtain rfl : fn' = fn := Option.some.inj (hfn'.symm.trans hfn)
 obtain ⟨⟨⟨ds, gs, before, hw, _⟩, _⟩, _⟩ := hpre
 refine (contract (w.forCall tape i) w.heap.size i.args ds gs before hval (DataW.Whole.of_heap (w' := w.forCall tape i) qar hw) hsh).mono fun e W' ⟨v, he, hp⟩ => ?_
 subst he
 exact ChangeSpec.post_blind hp
end
open Go.ChangeShapes Go.WideShapes Go.ChangeAt Go.RowKit Go.Deep Go.Joins
theorem LinkUW_impl (l : List FUnit) (u : Value) (w : World) (hw : l.length + FUnit.wts l ≤ 1048576) {B : Nat} (hmx : MaxAt w) (hB0 : B ≤ w.heap.size) (hr : RdC w B (.s 46 5 l.length (FUnit.flat l)) u) :
  Calls Tryz.prog 7 #[u] w fun e w' => ∃ A c, e = .returned (.tuple #[.slice A (luF l).2.length c, .int .i64 (luF l).1]) ∧ OwnI w' w.heap.size w'.heap.size [.s 56 4 (luF l).2.length (FClass.flat (luF l).2)] [.slice A (luF l).2.length c] ∧ Below w.heap.size w w' :=
 LinkUnits_impl l hw u w hB0 hmx hr
theorem LinkUW_spec (l : List FUnit) (u : Value) (w : World) (hw : l.length + FUnit.wts l ≤ 1048576) {B : Nat} (hB0 : B ≤ w.heap.size) (hr : RdC w B (.s 46 5 l.length (FUnit.flat l)) u) :
  Calls Tryz.prog 5 #[u] w fun e w' => ∃ A c, e = .returned (.tuple #[.slice A (luF l).2.length c, .int .i64 (luF l).1]) ∧ OwnI w' w.heap.size w'.heap.size [.s 56 4 (luF l).2.length (FClass.flat (luF l).2)] [.slice A (luF l).2.length c] ∧ Below w.heap.size w w' :=
 LinkUnits_spec l hw u w hB0 hr
theorem lu_cases (l : List FUnit) : (luF l).2 = [] ∨ (luF l).2 = (linkL (l.map FUnit.body)).2 := by
 unfold luF
 split
 ·exact .inl rfl
 ·split
  ·exact .inl rfl
  ·split
   ·exact .inl rfl
   ·exact .inr rfl
theorem lu_eq (l : List FUnit) (hw : l.length + FUnit.wts l ≤ 1048576) : (luF l).2.length ≤ 1000000000 ∧ EqClassS (luF l).2 := by
 have hb := body_wts l
 rcases lu_cases l with h | h
 ·rw [h]
  exact ⟨by simp, eqClassS_of _ qag fun x hx => by cases hx⟩
 ·rw [h]
  exact lk_eq _ qaa
theorem lu_cnt (l : List FUnit) (hw : l.length + FUnit.wts l ≤ 1048576) : cntL (FClass.flat (luF l).2) ≤ 20000000000000 := by
 have hb := body_wts l
 rcases lu_cases l with h | h
 ·rw [h]
  simp [FClass.flat, cntL]
 ·rw [h]
  exact lk_cnt _ qaa
theorem lu_pl (l : List FUnit) : ∀ c, c ∈ (luF l).2 → PlC c := by
 intro c hc x hx
 rcases lu_cases l with h | h
 ·rw [h] at hc
  cases hc
 ·rw [h] at hc
  exact (((link_good _).1 c hc).f.mem x hx).1
set_option maxHeartbeats 40000000
open Lib (hid)
open Go.ChangeMaps (open_string shut_string)
set_option maxRecDepth 100000
/-- What make lays, as a list of values. -/
def madeL (z : Array Value) (n : Nat) : List Value := (madeCells z n).toList
theorem own_madeL (w : World) (z : Array Value) (n k : Nat) (t : TypeId) (hz : z.size = k) (hk : 0 < k) (hn : n ≤ maxLen) : (w.alloc (.cells (madeCells z (n * k)) t)).ownsRow w.heap.size t k (.slice (some ⟨w.heap.size, 0, none⟩) n n) n ([] ++ madeL z (n * k)) := by
 rw [List.nil_append]
 have hsz : (madeCells z (n * k)).size = n * k := by simp [madeCells]
 refine ⟨by simp [madeL, hsz], .inr ⟨w.heap.size, n, madeCells z (n * k), rfl, Nat.le_refl _, heap_alloc_new w _, Nat.le_refl _, hn, hsz, ?_⟩⟩
 unfold madeL
 rw [List.take_of_length_le (by simp [hsz])]
theorem own_rowf {w : World} {base k n c g : Nat} {e : TypeId} {xs : List Value} (h : w.ownsRow base e k (.slice (some ⟨g, 0, none⟩) n c) n xs) : ∃ (g1 : Nat) (f : Nat → Value), w.rowIs g e (c * k) f := by
 rcases own_row h with ⟨hv, _⟩ | ⟨g1, cap, f, hv, _, _, _, hrow, _⟩
 ·cases hv
 ·simp only [Value.slice.injEq, Option.some.injEq, Addr.mk.injEq, true_and, and_true] at hv
  obtain ⟨rfl, rfl⟩ := hv
  exact ⟨g, f, hrow⟩
def ToNode (x : FNode) : Prop := ∀ (us : List Value) (w : World) (B : Nat), B ≤ w.heap.size → RdVs w B x.c us → Calls Tryz.prog 39 #[.agg us.toArray] w fun e w' => ∃ us', e = .returned (.agg us'.toArray) ∧ OwnI w' w.heap.size w'.heap.size x.c us' ∧ Below w.heap.size w w'
def ToNodeS (l : List FNode) : Prop := ∀ (u : Value) (w : World) (B : Nat), B ≤ w.heap.size → RdC w B (.s 44 4 l.length (FNode.flat l)) u → Calls Tryz.prog 64 #[u] w fun e w' => ∃ A c, e = .returned (.slice A l.length c) ∧ OwnI w' w.heap.size w'.heap.size [.s 44 4 l.length (FNode.flat l)] [.slice A l.length c] ∧ Below w.heap.size w w'
theorem toNode_of (z0 : Int) (z1 : Int) (z2 : ByteArray) (z3 : List FNode) (h3 : ToNodeS z3) : ToNode ⟨z0, z1, z2, z3⟩ := by
 intro us w B hB0 hr
 rw [FNode.c_eq] at hr ⊢
 obtain ⟨us0, rfl, hr_0⟩ := hr.unv
 obtain ⟨us1, rfl, hr_1⟩ := hr_0.unv
 obtain ⟨us2, rfl, hr_2⟩ := hr_1.unv
 obtain ⟨A3, c3, us3, rfl, r3, hr_3⟩ := hr_2.uns
 obtain rfl := hr_3.un0
 have R3 := hid r3
 clear r3
 have H3 := hid h3
 clear h3
 go_enter Tryz.func39, Tryz.ntmps39
 go_wp2_with fail
 refine calls_worldD _ (fun X => Blk X (w.heap.size) 37 #[.int .i64 z0, .int .i64 z1, .string z2, .slice A3 z3.length c3] ∧ Blk X (w.heap.size + 1) 44 #[.int .i64 0, .int .i64 0, .string ⟨#[]⟩, .slice none 0 0] ∧ Blk X (w.heap.size + 1 + 1) 44 #[.int .i64 z0, .int .i64 z1, .string z2, .slice none 0 0] ∧ Below w.heap.size w X) ⟨((Blk.new w _ _).alloc _).alloc _, (Blk.new' (w.alloc _) _ _ _ qag).alloc _, Blk.new' ((w.alloc _).alloc _) _ _ _ qag, ((((Below.refl _ _).alloc nr _).alloc qag _).alloc qak _)⟩ ?_
 rintro X0 ⟨ba, br, bo, hB⟩
 have s0 := bo.lt
 refine (H3.out _ _ B qaa (R3.out.below hB hB0)).mono ?_
 rintro e Y0 ⟨D3, d3, rfl, own, hb⟩
 have o3 := own
 clear own
 replace ba := ba.below hb nr
 replace br := br.below hb nr
 replace bo := bo.below hb nr
 replace hB := hB.trans (hb.mono qaa)
 have t0 : X0.heap.size ≤ Y0.heap.size := hb.size
 clear hb
 have ba_l := ba.lt
 have ba_f := fun i => ba.frozen i
 have br_0 : Y0.cell? ⟨w.heap.size + 1, 0, none⟩ = some (.int .i64 0) := br.cell 0
 have br_1 : Y0.cell? ⟨w.heap.size + 1, 1, none⟩ = some (.int .i64 0) := br.cell 1
 have br_2 : Y0.cell? ⟨w.heap.size + 1, 2, none⟩ = some (.string ⟨#[]⟩) := br.cell 2
 have br_3 : Y0.cell? ⟨w.heap.size + 1, 3, none⟩ = some (.slice none 0 0) := br.cell 3
 have br_l := br.lt
 have br_f := fun i => br.frozen i
 have bo_0 : Y0.cell? ⟨w.heap.size + 1 + 1, 0, none⟩ = some (.int .i64 z0) := bo.cell 0
 have bo_1 : Y0.cell? ⟨w.heap.size + 1 + 1, 1, none⟩ = some (.int .i64 z1) := bo.cell 1
 have bo_2 : Y0.cell? ⟨w.heap.size + 1 + 1, 2, none⟩ = some (.string z2) := bo.cell 2
 have bo_3 : Y0.cell? ⟨w.heap.size + 1 + 1, 3, none⟩ = some (.slice none 0 0) := bo.cell 3
 have bo_l := bo.lt
 have bo_f := fun i => bo.frozen i
 go_wp2_with fail
 skip
 refine bodyPost_ret (v := .agg #[.int .i64 z0, .int .i64 z1, .string z2, .slice D3 z3.length d3]) (by simp [results, Tryz.results39, go_sem, br_0, br_1, br_2, br_3, bo_0, bo_1, bo_2, bo_3, br_l, br_f, bo_l, bo_f]) rfl ⟨_, rfl, ?_, ?_⟩
 ·refine OwnI.wide (lo := X0.heap.size) (hi := Y0.heap.size) ?_ qaa qag
  repeat (refine OwnI.set ?_ (.inl qak) _)
  exact (OwnI.consv (OwnI.consv (OwnI.consv (OwnI.app (m := Y0.heap.size) (hi := Y0.heap.size) o3 (OwnI.wide (lo' := Y0.heap.size) (hi' := Y0.heap.size) (OwnI.nil _ Y0.heap.size Y0.heap.size) qaa qaa) nr qaa qaa) _) _) _)
 ·repeat (refine Below.setCell ?_ (by simp; try omega) _)
  exact hB
theorem infoNode : (Tryz.prog.info? 44).map (fun i => (i.zero.map Value.cells, i.size, i.bytes)) = some (some #[.int .i64 0, .int .i64 0, .string ByteArray.empty, .slice none 0 0], 4, 56) := by kernel_rfl
theorem toNodeS_of (l : List FNode) (hl : l.length ≤ 1048576) (he : ∀ x, x ∈ l → ToNode x) : ToNodeS l := by
 intro u w B hB0 hr0
 have hr := hr0.up hB0
 clear hr0
 obtain ⟨A, c, rfl⟩ := hr.form
 have HC := hid hr
 have hcap := hr.cap
 have hn : l.length ≤ 9223372036854775807 := qaa
 have hmk := fun W => make_law (P := Tryz.prog) 41 44 _ 4 56 Tryz.underlying41 infoNode l.length qaa hn W
 have HE := hid he
 clear he
 clear hr hcap
 go_enter Tryz.func64, Tryz.ntmps64
 go_wp2
 go_loopw [4] (fun i wr => ∃ k : Nat, k ≤ l.length ∧ i = .int .i64 k ∧ (∃ us zs, us.length = k * 4 ∧ zs.length = (l.length - k) * 4 ∧ wr.ownsRow w.heap.size 44 4 (.slice (some ⟨w.heap.size, 0, none⟩) l.length l.length) l.length (us ++ zs) ∧ OwnI wr (w.heap.size + 1) wr.heap.size (FNode.flat (l.take k)) us) ∧ Below w.heap.size w wr) (fun i _ => l.length - (intOf i).toNat)
 case atStart => exact ⟨0, Nat.zero_le _, rfl, ⟨[], madeL #[.int .i64 0, .int .i64 0, .string ByteArray.empty, .slice none 0 0] (l.length * 4), by simp, by simp [madeL, size_madeCells], own_madeL w _ l.length 4 _ rfl qaa qao, OwnI.nil _ _ _⟩, (Below.refl _ _).alloc nr _⟩
 case round =>
  obtain ⟨k, hk, rfl, ⟨us, zs, hus, hzs, hrow, hown⟩, hb⟩ := hrel
  have HROW := hid hrow
  have HOWN := hid hown
  have HUS := hid hus
  have HZS := hid hzs
  have hsz : w.heap.size < wr.heap.size := (hrow.lt _ rfl).2
  clear hmk hrow hown hus hzs
  by_cases hlt : k < l.length
  ·obtain ⟨x, hx⟩ : ∃ x, l[k]? = some x := ⟨_, List.getElem?_eq_getElem hlt⟩
   obtain ⟨bc, offc, rfl, hblc, hcc⟩ := RdC.at_ FNode.len HC.out hx
   obtain ⟨z0, z1, z2, z3⟩ := x
   rw [FNode.c_eq] at hcc
   obtain ⟨u0, e0, q0⟩ := hcc 0 _ rfl
   obtain rfl := q0.val
   clear q0
   have c_0 : wr.cell? ⟨bc, offc + k * 4, none⟩ = some (.int .i64 z0) := (hb.cell (p := ⟨bc, _, none⟩) hblc).trans qa3
   obtain ⟨u1, e1, q1⟩ := hcc 1 _ rfl
   obtain rfl := q1.val
   clear q1
   have c_1 : wr.cell? ⟨bc, offc + k * 4 + 1, none⟩ = some (.int .i64 z1) := (hb.cell (p := ⟨bc, _, none⟩) hblc).trans qa4
   obtain ⟨u2, e2, q2⟩ := hcc 2 _ rfl
   obtain rfl := q2.val
   clear q2
   have c_2 : wr.cell? ⟨bc, offc + k * 4 + 2, none⟩ = some (.string z2) := (hb.cell (p := ⟨bc, _, none⟩) hblc).trans qa5
   obtain ⟨u3, e3, q3⟩ := hcc 3 _ rfl
   obtain ⟨A3, c3, rfl⟩ := q3.form
   have Q3 := hid q3
   clear q3
   have c_3 : wr.cell? ⟨bc, offc + k * 4 + 3, none⟩ = some (.slice A3 z3.length c3) := (hb.cell (p := ⟨bc, _, none⟩) hblc).trans qa6
   obtain ⟨g1, f1, hrow1⟩ := own_rowf HROW.out
   have HX := hid hx
   clear hcc hx e0 e1 e2 e3
   have HT := hid (HE.out _ (List.mem_of_getElem? HX.out))
   have HV := hid (show RdVs wr w.heap.size (FNode.c ⟨z0, z1, z2, z3⟩) [.int .i64 z0, .int .i64 z1, .string z2, .slice A3 z3.length c3] from by rw [FNode.c_eq]; exact (RdVs.cons qaf (RdVs.cons qaf (RdVs.cons qaf (RdVs.cons (Q3.out.below hb nr) (RdVs.nil _ _))))))
   go_wp2_with fail
   refine (HT.out _ _ w.heap.size qaa HV.out).mono ?_
   rw [FNode.c_eq]
   rintro e w2 ⟨us2, rfl, own2, hb2⟩
   have hv := own2.vs
   obtain ⟨us2_0, rfl, hv_0⟩ := hv.unv
   obtain ⟨us2_1, rfl, hv_1⟩ := hv_0.unv
   obtain ⟨us2_2, rfl, hv_2⟩ := hv_1.unv
   obtain ⟨D3, d3, us2_3, rfl, _, hv_3⟩ := hv_2.uns
   obtain rfl := hv_3.un0
   have OWN2 := hid own2
   have row2 : w2.rowIs w.heap.size 44 (l.length * 4) f1 := hrow1.of_block (hb2.block _ hrow1.lt)
   have ROW2 := hid (own_below HROW.out hb2 nr)
   have hsz2 : wr.heap.size ≤ w2.heap.size := hb2.size
   have hB2 := hb.trans (hb2.mono hb.size)
   have HOWN2 := hid (HOWN.out.below hb2 nr)
   have r0 := row2.cell (i := k * 4) qaa
   have f0_ := row2.frozen (k * 4)
   have r1 := row2.cell (i := k * 4 + 1) qaa
   have f1_ := row2.frozen (k * 4 + 1)
   have r2 := row2.cell (i := k * 4 + 2) qaa
   have f2_ := row2.frozen (k * 4 + 2)
   have r3 := row2.cell (i := k * 4 + 3) qaa
   have f3_ := row2.frozen (k * 4 + 3)
   clear own2 row2 hrow1 c_0 c_1 c_2 c_3
   go_wp2_with fail
   go_roundw
   case rel =>
    have hflat : FNode.flat (l.take (k + 1)) = FNode.flat (l.take k) ++ [.v (.int .i64 z0), .v (.int .i64 z1), .v (.string z2), .s 44 4 z3.length (FNode.flat z3)] := by
     rw [List.take_add_one, HX.out]
     simp [FNode.c_eq]
    have hset := sets_app [.int .i64 z0, .int .i64 z1, .string z2, .slice D3 z3.length d3] us zs (k * 4) HUS.out (by rw [HZS.out]; simp; omega)
    refine ⟨k + 1, by omega, by go_num, ⟨us ++ [.int .i64 z0, .int .i64 z1, .string z2, .slice D3 z3.length d3], zs.drop 4, by simp [HUS.out]; try omega, by rw [List.length_drop, HZS.out]; omega, ?_, ?_⟩, ((((hB2.setCell qag _).setCell qag _).setCell qag _).setCell qag _)⟩
    ·have hfin := (own_setC (own_setC (own_setC (own_setC ROW2.out (i := k * 4) qaa (.int .i64 z0)) (i := k * 4 + 1) qaa (.int .i64 z1)) (i := k * 4 + 2) qaa (.string z2)) (i := k * 4 + 3) qaa (.slice D3 z3.length d3))
     rw [show us ++ [.int .i64 z0, .int .i64 z1, .string z2, .slice D3 z3.length d3] ++ zs.drop 4 = _ from hset.symm]
     simpa [sets] using hfin
    ·rw [hflat]
     have hfin := (OwnI.set (OwnI.set (OwnI.set (OwnI.set (OwnI.app (m := wr.heap.size) (lo' := wr.heap.size) (hi := w2.heap.size) HOWN2.out OWN2.out nr qaa qaa) (p := ⟨w.heap.size, k * 4, none⟩) (.inl qag) (.int .i64 z0)) (p := ⟨w.heap.size, k * 4 + 1, none⟩) (.inl qag) (.int .i64 z1)) (p := ⟨w.heap.size, k * 4 + 2, none⟩) (.inl qag) (.string z2)) (p := ⟨w.heap.size, k * 4 + 3, none⟩) (.inl qag) (.slice D3 z3.length d3))
     exact hfin.wide nr qag
   case measure => simp [intOf]; omega
  ·obtain rfl : k = l.length := qaa
   exact zz77
mutual
theorem toNode_any : ∀ (x : FNode), x.wt ≤ 1048576 → ToNode x
 | .mk a0 a1 a2 a3, hw => by
  unfold FNode.wt at hw
  exact toNode_of a0 a1 a2 a3 (toNodeS_of a3 qaa (toNode_all a3 qaa))
theorem toNode_all : ∀ (l : List FNode), l.length + FNode.wts l ≤ 1048576 → ∀ x, x ∈ l → ToNode x
 | [], _, x, hx => by cases hx
 | y :: r, hw, x, hx => by
  unfold FNode.wts at hw
  simp only [List.length_cons] at hw
  rcases List.mem_cons.1 hx with e | hx
  ·rw [e]
   exact toNode_any y qaa
  ·exact toNode_all r qaa x hx
end
def ToUnit (x : FUnit) : Prop := ∀ (us : List Value) (w : World) (B : Nat), B ≤ w.heap.size → RdVs w B x.c us → Calls Tryz.prog 18 #[.agg us.toArray] w fun e w' => ∃ us', e = .returned (.agg us'.toArray) ∧ OwnI w' w.heap.size w'.heap.size x.c us' ∧ Below w.heap.size w w'
def ToUnitS (l : List FUnit) : Prop := ∀ (u : Value) (w : World) (B : Nat), B ≤ w.heap.size → RdC w B (.s 46 5 l.length (FUnit.flat l)) u → Calls Tryz.prog 6 #[u] w fun e w' => ∃ A c, e = .returned (.slice A l.length c) ∧ OwnI w' w.heap.size w'.heap.size [.s 46 5 l.length (FUnit.flat l)] [.slice A l.length c] ∧ Below w.heap.size w w'
theorem toUnit_of (z0 : ByteArray) (z1 : Int) (z2 : Int) (z3 : ByteArray) (z4 : List FNode) (h1 : ToNode ⟨z1, z2, z3, z4⟩) : ToUnit ⟨z0, ⟨z1, z2, z3, z4⟩⟩ := by
 intro us w B hB0 hr
 rw [FUnit.c_eq] at hr ⊢
 obtain ⟨us0, rfl, hr_0⟩ := hr.unv
 obtain ⟨us1, rfl, hr_1⟩ := hr_0.unv
 obtain ⟨us2, rfl, hr_2⟩ := hr_1.unv
 obtain ⟨us3, rfl, hr_3⟩ := hr_2.unv
 obtain ⟨A4, c4, us4, rfl, r4, hr_4⟩ := hr_3.uns
 obtain rfl := hr_4.un0
 have R4 := hid r4
 clear r4
 have H1 := hid h1
 clear h1
 go_enter Tryz.func18, Tryz.ntmps18
 go_wp2_with fail
 refine calls_worldD _ (fun X => Blk X (w.heap.size) 39 #[.string z0, .int .i64 z1, .int .i64 z2, .string z3, .slice A4 z4.length c4] ∧ Blk X (w.heap.size + 1) 46 #[.string ⟨#[]⟩, .int .i64 0, .int .i64 0, .string ⟨#[]⟩, .slice none 0 0] ∧ Blk X (w.heap.size + 1 + 1) 46 #[.string z0, .int .i64 0, .int .i64 0, .string ⟨#[]⟩, .slice none 0 0] ∧ Below w.heap.size w X) ⟨((Blk.new w _ _).alloc _).alloc _, (Blk.new' (w.alloc _) _ _ _ qag).alloc _, Blk.new' ((w.alloc _).alloc _) _ _ _ qag, ((((Below.refl _ _).alloc nr _).alloc qag _).alloc qak _)⟩ ?_
 rintro X0 ⟨ba, br, bo, hB⟩
 have s0 := bo.lt
 refine (H1.out [.int .i64 z1, .int .i64 z2, .string z3, .slice A4 z4.length c4] _ B qaa qa9).mono ?_
 rw [FNode.c_eq]
 rintro e Y0 ⟨us_, rfl, own, hb⟩
 have hv := own.vs
 obtain ⟨us_1, rfl, hv_0⟩ := hv.unv
 obtain ⟨us_2, rfl, hv_1⟩ := hv_0.unv
 obtain ⟨us_3, rfl, hv_2⟩ := hv_1.unv
 obtain ⟨D4, d4, us_4, rfl, _, hv_3⟩ := hv_2.uns
 obtain rfl := hv_3.un0
 have o1 := own
 clear own
 replace ba := ba.below hb nr
 replace br := br.below hb nr
 replace bo := bo.below hb nr
 replace hB := hB.trans (hb.mono qaa)
 have t0 : X0.heap.size ≤ Y0.heap.size := hb.size
 clear hb
 have ba_l := ba.lt
 have ba_f := fun i => ba.frozen i
 have br_0 : Y0.cell? ⟨w.heap.size + 1, 0, none⟩ = some (.string ⟨#[]⟩) := br.cell 0
 have br_1 : Y0.cell? ⟨w.heap.size + 1, 1, none⟩ = some (.int .i64 0) := br.cell 1
 have br_2 : Y0.cell? ⟨w.heap.size + 1, 2, none⟩ = some (.int .i64 0) := br.cell 2
 have br_3 : Y0.cell? ⟨w.heap.size + 1, 3, none⟩ = some (.string ⟨#[]⟩) := br.cell 3
 have br_4 : Y0.cell? ⟨w.heap.size + 1, 4, none⟩ = some (.slice none 0 0) := br.cell 4
 have br_l := br.lt
 have br_f := fun i => br.frozen i
 have bo_0 : Y0.cell? ⟨w.heap.size + 1 + 1, 0, none⟩ = some (.string z0) := bo.cell 0
 have bo_1 : Y0.cell? ⟨w.heap.size + 1 + 1, 1, none⟩ = some (.int .i64 0) := bo.cell 1
 have bo_2 : Y0.cell? ⟨w.heap.size + 1 + 1, 2, none⟩ = some (.int .i64 0) := bo.cell 2
 have bo_3 : Y0.cell? ⟨w.heap.size + 1 + 1, 3, none⟩ = some (.string ⟨#[]⟩) := bo.cell 3
 have bo_4 : Y0.cell? ⟨w.heap.size + 1 + 1, 4, none⟩ = some (.slice none 0 0) := bo.cell 4
 have bo_l := bo.lt
 have bo_f := fun i => bo.frozen i
 go_wp2_with fail
 skip
 refine bodyPost_ret (v := .agg #[.string z0, .int .i64 z1, .int .i64 z2, .string z3, .slice D4 z4.length d4]) (by simp [results, Tryz.results18, go_sem, br_0, br_1, br_2, br_3, br_4, bo_0, bo_1, bo_2, bo_3, bo_4, br_l, br_f, bo_l, bo_f]) rfl ⟨_, rfl, ?_, ?_⟩
 ·refine OwnI.wide (lo := X0.heap.size) (hi := Y0.heap.size) ?_ qaa qag
  repeat (refine OwnI.set ?_ (.inl qak) _)
  exact (OwnI.consv (OwnI.app (m := Y0.heap.size) (hi := Y0.heap.size) o1 (OwnI.wide (lo' := Y0.heap.size) (hi' := Y0.heap.size) (OwnI.nil _ Y0.heap.size Y0.heap.size) qaa qaa) nr qaa qaa) _)
 ·repeat (refine Below.setCell ?_ (by simp; try omega) _)
  exact hB
theorem infoUnit : (Tryz.prog.info? 46).map (fun i => (i.zero.map Value.cells, i.size, i.bytes)) = some (some #[.string ByteArray.empty, .int .i64 0, .int .i64 0, .string ByteArray.empty, .slice none 0 0], 5, 72) := by kernel_rfl
theorem toUnitS_of (l : List FUnit) (hl : l.length ≤ 1048576) (he : ∀ x, x ∈ l → ToUnit x) : ToUnitS l := by
 intro u w B hB0 hr0
 have hr := hr0.up hB0
 clear hr0
 obtain ⟨A, c, rfl⟩ := hr.form
 have HC := hid hr
 have hcap := hr.cap
 have hn : l.length ≤ 9223372036854775807 := qaa
 have hmk := fun W => make_law (P := Tryz.prog) 27 46 _ 5 72 Tryz.underlying27 infoUnit l.length qaa hn W
 have HE := hid he
 clear he
 clear hr hcap
 go_enter Tryz.func6, Tryz.ntmps6
 go_wp2
 go_loopw [4] (fun i wr => ∃ k : Nat, k ≤ l.length ∧ i = .int .i64 k ∧ (∃ us zs, us.length = k * 5 ∧ zs.length = (l.length - k) * 5 ∧ wr.ownsRow w.heap.size 46 5 (.slice (some ⟨w.heap.size, 0, none⟩) l.length l.length) l.length (us ++ zs) ∧ OwnI wr (w.heap.size + 1) wr.heap.size (FUnit.flat (l.take k)) us) ∧ Below w.heap.size w wr) (fun i _ => l.length - (intOf i).toNat)
 case atStart => exact ⟨0, Nat.zero_le _, rfl, ⟨[], madeL #[.string ByteArray.empty, .int .i64 0, .int .i64 0, .string ByteArray.empty, .slice none 0 0] (l.length * 5), by simp, by simp [madeL, size_madeCells], own_madeL w _ l.length 5 _ rfl qaa qao, OwnI.nil _ _ _⟩, (Below.refl _ _).alloc nr _⟩
 case round =>
  obtain ⟨k, hk, rfl, ⟨us, zs, hus, hzs, hrow, hown⟩, hb⟩ := hrel
  have HROW := hid hrow
  have HOWN := hid hown
  have HUS := hid hus
  have HZS := hid hzs
  have hsz : w.heap.size < wr.heap.size := (hrow.lt _ rfl).2
  clear hmk hrow hown hus hzs
  by_cases hlt : k < l.length
  ·obtain ⟨x, hx⟩ : ∃ x, l[k]? = some x := ⟨_, List.getElem?_eq_getElem hlt⟩
   obtain ⟨bc, offc, rfl, hblc, hcc⟩ := RdC.at_ FUnit.len HC.out hx
   obtain ⟨z0, ⟨z1, z2, z3, z4⟩⟩ := x
   rw [FUnit.c_eq] at hcc
   obtain ⟨u0, e0, q0⟩ := hcc 0 _ rfl
   obtain rfl := q0.val
   clear q0
   have c_0 : wr.cell? ⟨bc, offc + k * 5, none⟩ = some (.string z0) := (hb.cell (p := ⟨bc, _, none⟩) hblc).trans qa3
   obtain ⟨u1, e1, q1⟩ := hcc 1 _ rfl
   obtain rfl := q1.val
   clear q1
   have c_1 : wr.cell? ⟨bc, offc + k * 5 + 1, none⟩ = some (.int .i64 z1) := (hb.cell (p := ⟨bc, _, none⟩) hblc).trans qa4
   obtain ⟨u2, e2, q2⟩ := hcc 2 _ rfl
   obtain rfl := q2.val
   clear q2
   have c_2 : wr.cell? ⟨bc, offc + k * 5 + 2, none⟩ = some (.int .i64 z2) := (hb.cell (p := ⟨bc, _, none⟩) hblc).trans qa5
   obtain ⟨u3, e3, q3⟩ := hcc 3 _ rfl
   obtain rfl := q3.val
   clear q3
   have c_3 : wr.cell? ⟨bc, offc + k * 5 + 3, none⟩ = some (.string z3) := (hb.cell (p := ⟨bc, _, none⟩) hblc).trans qa6
   obtain ⟨u4, e4, q4⟩ := hcc 4 _ rfl
   obtain ⟨A4, c4, rfl⟩ := q4.form
   have Q4 := hid q4
   clear q4
   have c_4 : wr.cell? ⟨bc, offc + k * 5 + 4, none⟩ = some (.slice A4 z4.length c4) := (hb.cell (p := ⟨bc, _, none⟩) hblc).trans qbn
   obtain ⟨g1, f1, hrow1⟩ := own_rowf HROW.out
   have HX := hid hx
   clear hcc hx e0 e1 e2 e3 e4
   have HT := hid (HE.out _ (List.mem_of_getElem? HX.out))
   have HV := hid (show RdVs wr w.heap.size (FUnit.c ⟨z0, ⟨z1, z2, z3, z4⟩⟩) [.string z0, .int .i64 z1, .int .i64 z2, .string z3, .slice A4 z4.length c4] from by rw [FUnit.c_eq]; exact (RdVs.cons qaf (RdVs.cons qaf (RdVs.cons qaf (RdVs.cons qaf (RdVs.cons (Q4.out.below hb nr) (RdVs.nil _ _)))))))
   go_wp2_with fail
   refine (HT.out _ _ w.heap.size qaa HV.out).mono ?_
   rw [FUnit.c_eq]
   rintro e w2 ⟨us2, rfl, own2, hb2⟩
   have hv := own2.vs
   obtain ⟨us2_0, rfl, hv_0⟩ := hv.unv
   obtain ⟨us2_1, rfl, hv_1⟩ := hv_0.unv
   obtain ⟨us2_2, rfl, hv_2⟩ := hv_1.unv
   obtain ⟨us2_3, rfl, hv_3⟩ := hv_2.unv
   obtain ⟨D4, d4, us2_4, rfl, _, hv_4⟩ := hv_3.uns
   obtain rfl := hv_4.un0
   have OWN2 := hid own2
   have row2 : w2.rowIs w.heap.size 46 (l.length * 5) f1 := hrow1.of_block (hb2.block _ hrow1.lt)
   have ROW2 := hid (own_below HROW.out hb2 nr)
   have hsz2 : wr.heap.size ≤ w2.heap.size := hb2.size
   have hB2 := hb.trans (hb2.mono hb.size)
   have HOWN2 := hid (HOWN.out.below hb2 nr)
   have r0 := row2.cell (i := k * 5) qaa
   have f0_ := row2.frozen (k * 5)
   have r1 := row2.cell (i := k * 5 + 1) qaa
   have f1_ := row2.frozen (k * 5 + 1)
   have r2 := row2.cell (i := k * 5 + 2) qaa
   have f2_ := row2.frozen (k * 5 + 2)
   have r3 := row2.cell (i := k * 5 + 3) qaa
   have f3_ := row2.frozen (k * 5 + 3)
   have r4 := row2.cell (i := k * 5 + 4) qaa
   have f4_ := row2.frozen (k * 5 + 4)
   clear own2 row2 hrow1 c_0 c_1 c_2 c_3 c_4
   go_wp2_with fail
   go_roundw
   case rel =>
    have hflat : FUnit.flat (l.take (k + 1)) = FUnit.flat (l.take k) ++ [.v (.string z0), .v (.int .i64 z1), .v (.int .i64 z2), .v (.string z3), .s 44 4 z4.length (FNode.flat z4)] := by
     rw [List.take_add_one, HX.out]
     simp [FUnit.c_eq]
    have hset := sets_app [.string z0, .int .i64 z1, .int .i64 z2, .string z3, .slice D4 z4.length d4] us zs (k * 5) HUS.out (by rw [HZS.out]; simp; omega)
    refine ⟨k + 1, by omega, by go_num, ⟨us ++ [.string z0, .int .i64 z1, .int .i64 z2, .string z3, .slice D4 z4.length d4], zs.drop 5, by simp [HUS.out]; try omega, by rw [List.length_drop, HZS.out]; omega, ?_, ?_⟩, (((((hB2.setCell qag _).setCell qag _).setCell qag _).setCell qag _).setCell qag _)⟩
    ·have hfin := (own_setC (own_setC (own_setC (own_setC (own_setC ROW2.out (i := k * 5) qaa (.string z0)) (i := k * 5 + 1) qaa (.int .i64 z1)) (i := k * 5 + 2) qaa (.int .i64 z2)) (i := k * 5 + 3) qaa (.string z3)) (i := k * 5 + 4) qaa (.slice D4 z4.length d4))
     rw [show us ++ [.string z0, .int .i64 z1, .int .i64 z2, .string z3, .slice D4 z4.length d4] ++ zs.drop 5 = _ from hset.symm]
     simpa [sets] using hfin
    ·rw [hflat]
     have hfin := (OwnI.set (OwnI.set (OwnI.set (OwnI.set (OwnI.set (OwnI.app (m := wr.heap.size) (lo' := wr.heap.size) (hi := w2.heap.size) HOWN2.out OWN2.out nr qaa qaa) (p := ⟨w.heap.size, k * 5, none⟩) (.inl qag) (.string z0)) (p := ⟨w.heap.size, k * 5 + 1, none⟩) (.inl qag) (.int .i64 z1)) (p := ⟨w.heap.size, k * 5 + 2, none⟩) (.inl qag) (.int .i64 z2)) (p := ⟨w.heap.size, k * 5 + 3, none⟩) (.inl qag) (.string z3)) (p := ⟨w.heap.size, k * 5 + 4, none⟩) (.inl qag) (.slice D4 z4.length d4))
     exact hfin.wide nr qag
   case measure => simp [intOf]; omega
  ·obtain rfl : k = l.length := qaa
   exact zz77
theorem toUnit_any (x : FUnit) (hw : x.wt ≤ 1048576) : ToUnit x := by
 obtain ⟨z0, ⟨z1, z2, z3, z4⟩⟩ := x
 exact toUnit_of z0 z1 z2 z3 z4 (toNode_any _ (by rw [FUnit.wt_eq] at hw; rw [FNode.wt_eq]; omega))
theorem toUnitS_any (l : List FUnit) (hw : l.length + FUnit.wts l ≤ 1048576) : ToUnitS l := (toUnitS_of l qaa (fun x hx => toUnit_any x (by have := FUnit.wts_at l x hx; omega)))
def SzNode (x : FNode) : Prop := ∀ (us : List Value) (left : Int) (w : World) (B : Nat), 0 ≤ left → left ≤ 1048576 → B ≤ w.heap.size → RdVs w B x.c us → Calls Tryz.prog 31 #[.agg us.toArray, .int .i64 left] w fun e w' => e = .returned (.int .i64 (bud left x.wt)) ∧ Below w.heap.size w w'
def SzNodeS (l : List FNode) : Prop := ∀ (u : Value) (left : Int) (w : World) (B : Nat), 0 ≤ left → left ≤ 1048576 → B ≤ w.heap.size → RdC w B (.s 44 4 l.length (FNode.flat l)) u → Calls Tryz.prog 49 #[u, .int .i64 left] w fun e w' => e = .returned (.int .i64 (bud left (l.length + FNode.wts l))) ∧ Below w.heap.size w w'
theorem szNode_of (z0 : Int) (z1 : Int) (z2 : ByteArray) (z3 : List FNode) (hok : FNode.ok ⟨z0, z1, z2, z3⟩) (h3 : SzNodeS z3) : SzNode ⟨z0, z1, z2, z3⟩ := by
 intro us left w B hl0 hl1 hB0 hr
 rw [FNode.c_eq] at hr
 rw [FNode.wt_eq]
 rw [FNode.ok_eq] at hok
 obtain ⟨us0, rfl, hr_0⟩ := hr.unv
 obtain ⟨us1, rfl, hr_1⟩ := hr_0.unv
 obtain ⟨us2, rfl, hr_2⟩ := hr_1.unv
 obtain ⟨A3, c3, us3, rfl, r3, hr_3⟩ := hr_2.uns
 obtain rfl := hr_3.un0
 clear hr hr_0 hr_1 hr_2 hr_3
 have R3 := hid r3
 clear r3
 have H3 := hid h3
 clear h3
 have ks2 := hok.1
 clear hok
 obtain ⟨W, hW⟩ : ∃ W : Nat, W = z2.size + (z3.length + FNode.wts z3) := ⟨_, rfl⟩
 rw [← hW]
 have HW := hid hW
 clear hW
 by_cases c2 : left - z2.size < 0
 case pos =>
  go_enter Tryz.func31, Tryz.ntmps31
  go_wp2_with fail
  go_ret
  exact ⟨ret_int (by rw [bud_neg (by have := HW.out; omega)]), (Below.refl _ _).alloc nr _⟩
 go_enter Tryz.func31, Tryz.ntmps31
 go_wp2_with fail
 refine calls_worldD _ (fun X => Blk X w.heap.size 37 #[.int .i64 z0, .int .i64 z1, .string z2, .slice A3 z3.length c3] ∧ Below w.heap.size w X) ⟨Blk.new w _ _, (Below.refl _ _).alloc nr _⟩ ?_
 rintro X0 ⟨ba, hB⟩
 have s0 := ba.lt
 refine (H3.out _ _ _ B qaa qaa qaa (R3.out.below hB hB0)).mono ?_
 generalize hq0 : (z3.length + FNode.wts z3 : Nat) = q0 at *
 have Q0 := hid hq0
 clear hq0
 rintro e Y0 ⟨rfl, hb⟩
 replace ba := ba.below hb nr
 replace hB := hB.trans (hb.mono qaa)
 clear hb
 by_cases f0 : (q0 : Int) ≤ left - z2.size
 case neg =>
  have e0 := bud_neg f0
  rw [e0]
  clear e0
  have ba_l := ba.lt
  go_wp2_with fail
  go_ret
  exact ⟨ret_int (by rw [bud_neg (by have := HW.out; have := Q0.out; omega)]), hB⟩
 have e0 := bud_pos f0
 rw [e0]
 clear e0
 have ba_l := ba.lt
 go_wp2_with fail
 go_ret
 exact ⟨ret_int (by have := HW.out; have := Q0.out; rw [bud_pos qaa]; omega), hB⟩
theorem szNodeS_of (l : List FNode) (he : ∀ x, x ∈ l → SzNode x) : SzNodeS l := by
 intro u left w B hl0 hl1 hB0 hr0
 have hr := hr0.up hB0
 clear hr0
 obtain ⟨A, c, rfl⟩ := hr.form
 have HC := hid hr
 have hcap := hr.cap
 have hcm : l.length ≤ 9223372036854775807 := by unfold maxLen at hcap; omega
 have HE := hid he
 clear hr hcap he
 by_cases hfit : left - l.length < 0
 ·go_enter Tryz.func49, Tryz.ntmps49
  go_wp2_with fail
  go_ret
  exact ⟨ret_int (by rw [bud_neg qaa]), Below.refl _ _⟩
 go_enter Tryz.func49, Tryz.ntmps49
 go_wp2_with fail
 go_loopw [1, 5] (fun lv i wr => ∃ k : Nat, k ≤ l.length ∧ i = .int .i64 k ∧ lv = .int .i64 (left - l.length - (FNode.wts (l.take k) : Nat)) ∧ ((FNode.wts (l.take k) : Nat) : Int) ≤ left - l.length ∧ Below w.heap.size w wr) (fun _ i _ => l.length - (intOf i).toNat)
 case atStart => exact ⟨0, Nat.zero_le _, rfl, by simp [FNode.wts], by simp [FNode.wts]; omega, Below.refl _ _⟩
 case round =>
  obtain ⟨k, hk, rfl, rfl, hw, hb⟩ := hrel
  by_cases hlt : k < l.length
  ·obtain ⟨x, hx⟩ : ∃ x, l[k]? = some x := ⟨_, List.getElem?_eq_getElem hlt⟩
   obtain ⟨bc, offc, rfl, hblc, hcc⟩ := RdC.at_ FNode.len HC.out hx
   have HZ := hid (HE.out x (List.mem_of_getElem? hx))
   have HT := hid (FNode.wts_take l k x hx)
   have HL := hid (FNode.wts_le l (k + 1))
   clear hx
   obtain ⟨z0, z1, z2, z3⟩ := x
   rw [FNode.c_eq] at hcc
   obtain ⟨u0, e0, q0⟩ := hcc 0 _ rfl
   obtain rfl := q0.val
   clear q0
   have c_0 : wr.cell? ⟨bc, offc + k * 4, none⟩ = some (.int .i64 z0) := (hb.cell (p := ⟨bc, _, none⟩) hblc).trans qa3
   obtain ⟨u1, e1, q1⟩ := hcc 1 _ rfl
   obtain rfl := q1.val
   clear q1
   have c_1 : wr.cell? ⟨bc, offc + k * 4 + 1, none⟩ = some (.int .i64 z1) := (hb.cell (p := ⟨bc, _, none⟩) hblc).trans qa4
   obtain ⟨u2, e2, q2⟩ := hcc 2 _ rfl
   obtain rfl := q2.val
   clear q2
   have c_2 : wr.cell? ⟨bc, offc + k * 4 + 2, none⟩ = some (.string z2) := (hb.cell (p := ⟨bc, _, none⟩) hblc).trans qa5
   obtain ⟨u3, e3, q3⟩ := hcc 3 _ rfl
   obtain ⟨A3, c3, rfl⟩ := q3.form
   have R3 := hid q3
   clear q3
   have c_3 : wr.cell? ⟨bc, offc + k * 4 + 3, none⟩ = some (.slice A3 z3.length c3) := (hb.cell (p := ⟨bc, _, none⟩) hblc).trans qa6
   clear hcc e0 e1 e2 e3
   generalize hu : FNode.wts (l.take k) = U at *
   have HU := hid hu
   clear hu
   generalize hv : FNode.wt ⟨z0, z1, z2, z3⟩ = V at *
   have HV := hid hv
   clear hv
   by_cases hf : (V : Int) ≤ left - l.length - U
   ·have hbp : 0 ≤ bud (left - l.length - U) V := by rw [bud_pos hf]; omega
    have HBP := hid (bud_pos hf)
    go_wp2_with fail
    refine (HZ.out [.int .i64 z0, .int .i64 z1, .string z2, .slice A3 z3.length c3] _ _ w.heap.size qaa qaa (by have := hb.size; omega) qa7).mono ?_
    exact zz76
   ·have hbp : bud (left - l.length - U) V = -1 := bud_neg hf
    have hbn : bud (left - l.length - U) V < 0 := by rw [hbp]; omega
    clear hbp
    go_wp2_with fail
    refine (HZ.out [.int .i64 z0, .int .i64 z1, .string z2, .slice A3 z3.length c3] _ _ w.heap.size qaa qaa (by have := hb.size; omega) qa7).mono ?_
    exact zz99
  ·exact zz134
mutual
theorem szNode_any : ∀ (x : FNode), x.ok → SzNode x
 | .mk a0 a1 a2 a3, hw => by
  have hw2 := hw
  unfold FNode.ok at hw2
  exact szNode_of a0 a1 a2 a3 hw (szNodeS_of a3 (szNode_all a3 hw2.2))
theorem szNode_all : ∀ (l : List FNode), FNode.oks l → ∀ x, x ∈ l → SzNode x
 | [], _, x, hx => by cases hx
 | y :: r, hw, x, hx => by
  unfold FNode.oks at hw
  rcases List.mem_cons.1 hx with e | hx
  ·rw [e]
   exact szNode_any y hw.1
  ·exact szNode_all r hw.2 x hx
end
def SzUnit (x : FUnit) : Prop := ∀ (us : List Value) (left : Int) (w : World) (B : Nat), 0 ≤ left → left ≤ 1048576 → B ≤ w.heap.size → RdVs w B x.c us → Calls Tryz.prog 13 #[.agg us.toArray, .int .i64 left] w fun e w' => e = .returned (.int .i64 (bud left x.wt)) ∧ Below w.heap.size w w'
def SzUnitS (l : List FUnit) : Prop := ∀ (u : Value) (left : Int) (w : World) (B : Nat), 0 ≤ left → left ≤ 1048576 → B ≤ w.heap.size → RdC w B (.s 46 5 l.length (FUnit.flat l)) u → Calls Tryz.prog 4 #[u, .int .i64 left] w fun e w' => e = .returned (.int .i64 (bud left (l.length + FUnit.wts l))) ∧ Below w.heap.size w w'
theorem szUnit_of (z0 : ByteArray) (z1 : Int) (z2 : Int) (z3 : ByteArray) (z4 : List FNode) (hok : FUnit.ok ⟨z0, ⟨z1, z2, z3, z4⟩⟩) (h1 : SzNode ⟨z1, z2, z3, z4⟩) : SzUnit ⟨z0, ⟨z1, z2, z3, z4⟩⟩ := by
 intro us left w B hl0 hl1 hB0 hr
 rw [FUnit.c_eq] at hr
 rw [FUnit.wt_eq]
 rw [FUnit.ok_eq] at hok
 obtain ⟨us0, rfl, hr_0⟩ := hr.unv
 obtain ⟨us1, rfl, hr_1⟩ := hr_0.unv
 obtain ⟨us2, rfl, hr_2⟩ := hr_1.unv
 obtain ⟨us3, rfl, hr_3⟩ := hr_2.unv
 obtain ⟨A4, c4, us4, rfl, r4, hr_4⟩ := hr_3.uns
 obtain rfl := hr_4.un0
 clear hr hr_0 hr_1 hr_2 hr_3 hr_4
 have R4 := hid r4
 clear r4
 have H1 := hid h1
 clear h1
 have ks0 := hok.1
 have ks3 := hok.2.1
 clear hok
 obtain ⟨W, hW⟩ : ∃ W : Nat, W = z0.size + z3.size + (z4.length + FNode.wts z4) := ⟨_, rfl⟩
 rw [← hW]
 have HW := hid hW
 clear hW
 by_cases c0 : left - z0.size < 0
 case pos =>
  go_enter Tryz.func13, Tryz.ntmps13
  go_wp2_with fail
  go_ret
  exact ⟨ret_int (by rw [bud_neg (by have := HW.out; have := FNode.wt_eq z1 z2 z3 z4; omega)]), (Below.refl _ _).alloc nr _⟩
 go_enter Tryz.func13, Tryz.ntmps13
 go_wp2_with fail
 refine calls_worldD _ (fun X => Blk X w.heap.size 39 #[.string z0, .int .i64 z1, .int .i64 z2, .string z3, .slice A4 z4.length c4] ∧ Below w.heap.size w X) ⟨Blk.new w _ _, (Below.refl _ _).alloc nr _⟩ ?_
 rintro X0 ⟨ba, hB⟩
 have s0 := ba.lt
 refine (H1.out [.int .i64 z1, .int .i64 z2, .string z3, .slice A4 z4.length c4] _ _ B qaa qaa qaa qa9).mono ?_
 generalize hq0 : (FNode.wt ⟨z1, z2, z3, z4⟩ : Nat) = q0 at *
 have Q0 := hid hq0
 clear hq0
 rintro e Y0 ⟨rfl, hb⟩
 replace ba := ba.below hb nr
 replace hB := hB.trans (hb.mono qaa)
 clear hb
 by_cases f0 : (q0 : Int) ≤ left - z0.size
 case neg =>
  have e0 := bud_neg f0
  rw [e0]
  clear e0
  have ba_l := ba.lt
  go_wp2_with fail
  go_ret
  exact ⟨ret_int (by rw [bud_neg (by have := HW.out; have := Q0.out; have := FNode.wt_eq z1 z2 z3 z4; omega)]), hB⟩
 have e0 := bud_pos f0
 rw [e0]
 clear e0
 have ba_l := ba.lt
 go_wp2_with fail
 go_ret
 exact ⟨ret_int (by have := HW.out; have := Q0.out; have := FNode.wt_eq z1 z2 z3 z4; rw [bud_pos qaa]; omega), hB⟩
theorem szUnitS_of (l : List FUnit) (he : ∀ x, x ∈ l → SzUnit x) : SzUnitS l := by
 intro u left w B hl0 hl1 hB0 hr0
 have hr := hr0.up hB0
 clear hr0
 obtain ⟨A, c, rfl⟩ := hr.form
 have HC := hid hr
 have hcap := hr.cap
 have hcm : l.length ≤ 9223372036854775807 := by unfold maxLen at hcap; omega
 have HE := hid he
 clear hr hcap he
 by_cases hfit : left - l.length < 0
 ·go_enter Tryz.func4, Tryz.ntmps4
  go_wp2_with fail
  go_ret
  exact ⟨ret_int (by rw [bud_neg qaa]), Below.refl _ _⟩
 go_enter Tryz.func4, Tryz.ntmps4
 go_wp2_with fail
 go_loopw [1, 5] (fun lv i wr => ∃ k : Nat, k ≤ l.length ∧ i = .int .i64 k ∧ lv = .int .i64 (left - l.length - (FUnit.wts (l.take k) : Nat)) ∧ ((FUnit.wts (l.take k) : Nat) : Int) ≤ left - l.length ∧ Below w.heap.size w wr) (fun _ i _ => l.length - (intOf i).toNat)
 case atStart => exact ⟨0, Nat.zero_le _, rfl, by simp [FUnit.wts], by simp [FUnit.wts]; omega, Below.refl _ _⟩
 case round =>
  obtain ⟨k, hk, rfl, rfl, hw, hb⟩ := hrel
  by_cases hlt : k < l.length
  ·obtain ⟨x, hx⟩ : ∃ x, l[k]? = some x := ⟨_, List.getElem?_eq_getElem hlt⟩
   obtain ⟨bc, offc, rfl, hblc, hcc⟩ := RdC.at_ FUnit.len HC.out hx
   have HZ := hid (HE.out x (List.mem_of_getElem? hx))
   have HT := hid (FUnit.wts_take l k x hx)
   have HL := hid (FUnit.wts_le l (k + 1))
   clear hx
   obtain ⟨z0, ⟨z1, z2, z3, z4⟩⟩ := x
   rw [FUnit.c_eq] at hcc
   obtain ⟨u0, e0, q0⟩ := hcc 0 _ rfl
   obtain rfl := q0.val
   clear q0
   have c_0 : wr.cell? ⟨bc, offc + k * 5, none⟩ = some (.string z0) := (hb.cell (p := ⟨bc, _, none⟩) hblc).trans qa3
   obtain ⟨u1, e1, q1⟩ := hcc 1 _ rfl
   obtain rfl := q1.val
   clear q1
   have c_1 : wr.cell? ⟨bc, offc + k * 5 + 1, none⟩ = some (.int .i64 z1) := (hb.cell (p := ⟨bc, _, none⟩) hblc).trans qa4
   obtain ⟨u2, e2, q2⟩ := hcc 2 _ rfl
   obtain rfl := q2.val
   clear q2
   have c_2 : wr.cell? ⟨bc, offc + k * 5 + 2, none⟩ = some (.int .i64 z2) := (hb.cell (p := ⟨bc, _, none⟩) hblc).trans qa5
   obtain ⟨u3, e3, q3⟩ := hcc 3 _ rfl
   obtain rfl := q3.val
   clear q3
   have c_3 : wr.cell? ⟨bc, offc + k * 5 + 3, none⟩ = some (.string z3) := (hb.cell (p := ⟨bc, _, none⟩) hblc).trans qa6
   obtain ⟨u4, e4, q4⟩ := hcc 4 _ rfl
   obtain ⟨A4, c4, rfl⟩ := q4.form
   have R4 := hid q4
   clear q4
   have c_4 : wr.cell? ⟨bc, offc + k * 5 + 4, none⟩ = some (.slice A4 z4.length c4) := (hb.cell (p := ⟨bc, _, none⟩) hblc).trans qbn
   clear hcc e0 e1 e2 e3 e4
   generalize hu : FUnit.wts (l.take k) = U at *
   have HU := hid hu
   clear hu
   generalize hv : FUnit.wt ⟨z0, ⟨z1, z2, z3, z4⟩⟩ = V at *
   have HV := hid hv
   clear hv
   by_cases hf : (V : Int) ≤ left - l.length - U
   ·have hbp : 0 ≤ bud (left - l.length - U) V := by rw [bud_pos hf]; omega
    have HBP := hid (bud_pos hf)
    go_wp2_with fail
    refine (HZ.out [.string z0, .int .i64 z1, .int .i64 z2, .string z3, .slice A4 z4.length c4] _ _ w.heap.size qaa qaa (by have := hb.size; omega) qaw).mono ?_
    exact zz76
   ·have hbp : bud (left - l.length - U) V = -1 := bud_neg hf
    have hbn : bud (left - l.length - U) V < 0 := by rw [hbp]; omega
    clear hbp
    go_wp2_with fail
    refine (HZ.out [.string z0, .int .i64 z1, .int .i64 z2, .string z3, .slice A4 z4.length c4] _ _ w.heap.size qaa qaa (by have := hb.size; omega) qaw).mono ?_
    exact zz99
  ·exact zz134
theorem szUnit_any (x : FUnit) (hw : x.ok) : SzUnit x := by
 obtain ⟨z0, ⟨z1, z2, z3, z4⟩⟩ := x
 have hw2 := hw
 rw [FUnit.ok_eq] at hw2
 exact szUnit_of z0 z1 z2 z3 z4 hw (szNode_any _ (by rw [FNode.ok_eq]; exact ⟨hw2.2.1, hw2.2.2⟩))
theorem szUnitS_any (l : List FUnit) (hw : FUnit.oks l) : SzUnitS l := (szUnitS_of l (fun x hx => szUnit_any x (FUnit.oks_mem l hw x hx)))
theorem fnExactLinkUnits_walk {H : Type} {enc : TypeId × Value → H} (W : World) (base : Nat) (v0 : Value) {d0 : DataW H} {p0 : List MemPlace}
  (k0 : Value.okWide Tryz.prog W .any base 22 v0)
  (h0 : DataW.Trod enc Tryz.prog W 0 (fun _ => true) true 22 v0 d0 p0) (hsh : W.ShapedOpen Tryz.prog) :
  Calls Tryz.prog 3 #[v0] W fun e w' => e = .returned (.bool true) ∧ Below W.heap.size W w' := by
 obtain ⟨A0, le0, c0, rfl⟩ := okWide_slice Tryz.underlying22 k0
 obtain ⟨fu0, hfu0⟩ := h0
 obtain ⟨v0, l0, ev0, r0, ok0⟩ := open_deep (ok := FUnit.ok) 46 FUnit.len qaa Tryz.underlying22 qab (fun m cs1 y1 _ h1 => read_Unit m cs1 y1 h1) hfu0
 obtain rfl : Value.slice A0 le0 c0 = v0 := by simpa [Value.cells] using ev0
 obtain ⟨A0', c0', ef0⟩ := r0.form
 simp only [Value.slice.injEq] at ef0
 obtain ⟨rfl, rfl, rfl⟩ := ef0
 have R0 := hid r0
 have OK0 := hid (FUnit.oks_of l0 ok0)
 clear r0 ok0 ev0 hfu0 k0
 have R := R0
 have OK := OK0
 clear R0 OK0
 by_cases hn : (((l0.length + FUnit.wts l0) : Nat) : Int) ≤ 1048576
 case neg =>
  have HP := hid (bud_neg hn)
  have hp : bud 1048576 (l0.length + FUnit.wts l0) < 0 := by rw [HP.out]; omega
  go_enter Tryz.func3, Tryz.ntmps3
  go_wp2_with fail
  have hB0 := Below.refl W.heap.size W
  refine (szUnitS_any l0 OK.out _ _ _ W.heap.size qaa qaa qaa (R.out.below hB0 nr)).mono ?_
  rintro e w1 ⟨rfl, hb⟩
  have hB := hB0.trans (hb.mono qaa)
  go_wp2_with fail
  go_ret
  exact ⟨rfl, hB⟩
 have hw : (l0.length + FUnit.wts l0) ≤ 1048576 := qaa
 have HWx := hid (show (l0.length + FUnit.wts l0) ≤ 1000000000 by omega)
 have HP := hid (bud_pos hn)
 have hp : 0 ≤ bud 1048576 (l0.length + FUnit.wts l0) := by rw [HP.out]; omega
 clear HP
 have HWl := hid (show l0.length + FUnit.wts l0 ≤ 1048576 from by omega)
 have HMX := hid (MaxAt.shaped hsh)
 generalize hg0 : (luF l0).1 = gb at *
 have HG0 := hid hg0
 clear hg0
 have hqw0 : (luF l0).2.length ≤ 1000000000 ∧ EqClassS (luF l0).2 := lu_eq l0 qaa
 have hqc0 := lu_cnt l0 qaa
 have hpl0 := lu_pl l0
 generalize hq0 : (luF l0).2 = q0 at *
 have HQ0 := hid hq0
 have HPL := hid hpl0
 clear hpl0
 clear hq0
 have HW0 := hid hqw0
 clear hqw0
 have hxc := cntb_UnitS l0
 obtain ⟨kx, hskx⟩ : ∃ k : Int, k = 1 + (cntL (FUnit.flat l0) : Int) := ⟨_, rfl⟩
 have hkkx : kx = 1 + (cntL (FUnit.flat l0) : Int) := hskx
 have npkx : 1 ≤ kx := qaa
 have nkkx : ¬ kx < 0 := qaa
 have dkkx : decide (kx < 0) = false := by simpa using nkkx
 have nbkx : kx ≤ 1000000000000 := qaa
 have HSkx := hid hskx
 have HKkx := hid hkkx
 clear hskx hkkx
 obtain ⟨m0, hsm0⟩ : ∃ k : Int, k = 1 + (cntL (FClass.flat q0) : Int) := ⟨_, rfl⟩
 have hkm0 : m0 = 1 + (cntL (FClass.flat q0) : Int) := hsm0
 have npm0 : 1 ≤ m0 := qaa
 have nkm0 : ¬ m0 < 0 := qaa
 have dkm0 : decide (m0 < 0) = false := by simpa using nkm0
 have nbm0 : m0 ≤ 100000000000000 := qaa
 have HSm0 := hid hsm0
 have HKm0 := hid hkm0
 clear hsm0 hkm0
 go_enter Tryz.func3, Tryz.ntmps3
 go_wp2_with fail
 have hB0 := Below.refl W.heap.size W
 refine (szUnitS_any l0 OK.out _ _ _ W.heap.size qaa qaa qaa (R.out.below hB0 nr)).mono ?_
 clear hB0
 rintro e w1 ⟨rfl, hb⟩
 have hB := hb
 have s1 : W.heap.size ≤ w1.heap.size := hb.size
 clear hb
 go_wp2_with fail
 refine (toUnitS_any l0 hw _ _ W.heap.size qaa (R.out.below hB nr)).mono ?_
 rintro e w2 ⟨U0, Uc0, rfl, own, hb⟩
 replace hB := hB.trans (hb.mono qaa)
 have s2 : w1.heap.size ≤ w2.heap.size := hb.size
 clear hb
 have iu := own
 clear own
 go_wp2_with fail
 refine (LinkUW_spec l0 _ _ HWl.out (B := w2.heap.size) nr iu.read).mono ?_
 rw [HG0.out]
 rw [HQ0.out]
 rintro e w3 ⟨G0_0, Gc0_0, rfl, own0, hb⟩
 replace iu := iu.below hb nr
 replace hB := hB.trans (hb.mono qaa)
 have s3 : w2.heap.size ≤ w3.heap.size := hb.size
 clear hb
 have iw0 := own0
 clear own0
 clear iu
 go_wp2_with fail
 refine (toUnitS_any l0 hw _ _ W.heap.size qaa (R.out.below hB nr)).mono ?_
 rintro e w4 ⟨X0, Xc0, rfl, own, hb⟩
 replace iw0 := iw0.below hb nr
 replace hB := hB.trans (hb.mono qaa)
 have s4 : w3.heap.size ≤ w4.heap.size := hb.size
 clear hb
 have ix := own
 clear own
 go_wp2_with fail
 refine (LinkUW_impl l0 _ _ HWl.out (B := w4.heap.size) (HMX.out.below hB) nr ix.read).mono ?_
 rw [HG0.out]
 rw [HQ0.out]
 rintro e w5 ⟨Y0_0, Yc0_0, rfl, own0, hb⟩
 replace iw0 := iw0.below hb nr
 replace ix := ix.below hb nr
 replace hB := hB.trans (hb.mono qaa)
 have s5 : w4.heap.size ≤ w5.heap.size := hb.size
 clear hb
 have ig0 := own0
 clear own0
 go_wp2_with fail
 refine (HW0.out.2 _ _ _ ig0.read iw0.read).mono ?_
 rintro e w6 ⟨rfl, hb⟩
 replace iw0 := iw0.below hb nr
 replace ix := ix.below hb nr
 replace ig0 := ig0.below hb nr
 replace hB := hB.trans (hb.mono qaa)
 have s6 : w5.heap.size ≤ w6.heap.size := hb.size
 clear hb
 go_wp2_with fail
 refine (toUnitS_any l0 hw _ _ W.heap.size qaa (R.out.below hB nr)).mono ?_
 rintro e w7 ⟨Z0, Zc0, rfl, own, hb⟩
 replace iw0 := iw0.below hb nr
 replace ix := ix.below hb nr
 replace ig0 := ig0.below hb nr
 replace hB := hB.trans (hb.mono qaa)
 have s7 : w6.heap.size ≤ w7.heap.size := hb.size
 clear hb
 have iz := own
 clear own
 go_wp2_with fail
 refine (eqUnitS_any l0 HWx.out _ _ _ ix.read iz.read).mono ?_
 rintro e w8 ⟨rfl, hb⟩
 replace iw0 := iw0.below hb nr
 replace ix := ix.below hb nr
 replace ig0 := ig0.below hb nr
 replace iz := iz.below hb nr
 replace hB := hB.trans (hb.mono qaa)
 have s8 : w7.heap.size ≤ w8.heap.size := hb.size
 clear hb
 clear iz
 go_wp2_with fail
 have hcall := markUnitS_I l0 _ 1 _ _ w8 qaa (by rw [← HKkx.out]; omega) ix
 rw [← HSkx.out] at hcall
 refine hcall.mono ?_
 clear hcall
 rintro e w9 ⟨rfl, im, hb⟩
 replace iw0 := iw0.only hb nr qaa
 replace ig0 := ig0.only hb nr qaa
 replace hB := hB.trans (hb.below qaa qaa)
 have s9 : w8.heap.size ≤ w9.heap.size := hb.size
 clear hb
 clear ix
 have ix := im
 clear im
 go_wp2_with fail
 refine (HW0.out.2 _ _ _ ig0.read iw0.read).mono ?_
 rintro e w10 ⟨rfl, hb⟩
 replace iw0 := iw0.below hb nr
 replace ix := ix.below hb nr
 replace ig0 := ig0.below hb nr
 replace hB := hB.trans (hb.mono qaa)
 have s10 : w9.heap.size ≤ w10.heap.size := hb.size
 clear hb
 go_wp2_with fail
 have hcall := markClassS_IP q0 HPL.out _ 1 _ _ w10 qaa (by rw [← HKm0.out]; omega) ig0
 rw [← HSm0.out] at hcall
 refine hcall.mono ?_
 clear hcall
 rintro e w11 ⟨rfl, im, hb⟩
 replace iw0 := iw0.only hb nr qaa
 replace ix := ix.only hb nr qaa
 replace hB := hB.trans (hb.below qaa qaa)
 have s11 : w10.heap.size ≤ w11.heap.size := hb.size
 clear hb
 clear ig0
 have ig0 := im
 clear im
 go_wp2_with fail
 have hcall := heldClassS_pl q0 HPL.out _ 1 w11 qaa (by rw [← HKm0.out]; omega) ig0.read
 rw [← HSm0.out] at hcall
 refine hcall.mono ?_
 clear hcall
 rintro e w12 ⟨rfl, hb⟩
 replace iw0 := iw0.below hb nr
 replace ix := ix.below hb nr
 replace ig0 := ig0.below hb nr
 replace hB := hB.trans (hb.mono qaa)
 have s12 : w11.heap.size ≤ w12.heap.size := hb.size
 clear hb
 go_wp2_with fail
 refine (toUnitS_any l0 hw _ _ W.heap.size qaa (R.out.below hB nr)).mono ?_
 rintro e w13 ⟨V0, Vc0, rfl, own, hb⟩
 replace iw0 := iw0.below hb nr
 replace ix := ix.below hb nr
 replace ig0 := ig0.below hb nr
 replace hB := hB.trans (hb.mono qaa)
 have s13 : w12.heap.size ≤ w13.heap.size := hb.size
 clear hb
 have iv := own
 clear own
 go_wp2_with fail
 refine (LinkUW_impl l0 _ _ HWl.out (B := w13.heap.size) (HMX.out.below hB) nr iv.read).mono ?_
 rw [HG0.out]
 rw [HQ0.out]
 rintro e w14 ⟨K0_0, Kc0_0, rfl, own0, hb⟩
 replace iw0 := iw0.below hb nr
 replace ix := ix.below hb nr
 replace ig0 := ig0.below hb nr
 replace iv := iv.below hb nr
 replace hB := hB.trans (hb.mono qaa)
 have s14 : w13.heap.size ≤ w14.heap.size := hb.size
 clear hb
 have ih0 := own0
 clear own0
 clear iv
 go_wp2_with fail
 refine (HW0.out.2 _ _ _ ih0.read iw0.read).mono ?_
 rintro e w15 ⟨rfl, hb⟩
 replace iw0 := iw0.below hb nr
 replace ix := ix.below hb nr
 replace ig0 := ig0.below hb nr
 replace ih0 := ih0.below hb nr
 replace hB := hB.trans (hb.mono qaa)
 have s15 : w14.heap.size ≤ w15.heap.size := hb.size
 clear hb
 go_wp2_with fail
 have hcall := heldClassS_pl q0 HPL.out _ 1 w15 qaa (by rw [← HKm0.out]; omega) ig0.read
 rw [← HSm0.out] at hcall
 refine hcall.mono ?_
 clear hcall
 rintro e w16 ⟨rfl, hb⟩
 replace iw0 := iw0.below hb nr
 replace ix := ix.below hb nr
 replace ig0 := ig0.below hb nr
 replace ih0 := ih0.below hb nr
 replace hB := hB.trans (hb.mono qaa)
 have s16 : w15.heap.size ≤ w16.heap.size := hb.size
 clear hb
 go_wp2_with fail
 go_ret
 exact ⟨rfl, hB⟩
noncomputable abbrev laidHere : List (String × DataW Unit) := [("unicode/utf8.acceptRanges", Rows.laid_unicode_utf8_acceptRanges), ("unicode/utf8.first", Rows.laid_unicode_utf8_first)]
theorem fnExactLinkUnits_lifted (os : Os) (started : os.Started) (H : Type) (enc : TypeId × Value → H) :
  ReturnsInHanded {} Tryz.checked os 3 .any (fun w args => (Rows.fnExactLinkUnitsSpec.pre enc Tryz.prog Tryz.f3 Rows.fnExactLinkUnitsRow.domain false w args ∧ laidMetH Tryz.prog laidHere w) ∧ sizedMet enc Tryz.prog Tryz.f3 (OpenSpec.ofChange Rows.fnExactLinkUnitsSpec) false w args) (Rows.fnExactLinkUnitsSpec.post enc Tryz.prog Tryz.f3 false true false false) := by
 refine handed_both (C := Tryz.checked) (X := fun w _ => laidMetH Tryz.prog laidHere w) own started qab Tryz.func3
  (ChangeSpec.witness_shaped (enc := enc) (C := Tryz.checked) (os := os) (X := fun w _ => laidMetH Tryz.prog laidHere w) false (World.laidAll Tryz.prog os laidHere) #[.slice none 0 0] 8 (World.laidAll_os _ _ _)
   (World.shaped_of_ZipB qab qab) qab qab qab
   (by rw [MakeChecks.laidMetH_plain _ _ _ qab]; exact laidMet_laidAll _ qab qab)) ?_
 intro W base args ds gs before hval0 hW hsh
 have hval : ∀ (j : Nat) t v, Tryz.f3.params[j]? = some t → args[j]? = some v → Value.okWide Tryz.prog W .any base t v := hval0
 have hW' := hW
 obtain ⟨p, q, hA0, hV, rfl, hfz, hnd⟩ := hW
 have hA : DataW.TrodAll enc Tryz.prog W 0 (fun _ => true) true Tryz.f3.params.toList args.toList ds p := hA0
 rw [Tryz.params3] at hA hval
 obtain ⟨v0, vs0, d0, ds0, p0, q0, hargs, rfl, rfl, h0, r0⟩ := trodAll_cons hA
 obtain ⟨rfl, rfl, rfl⟩ := trodAll_nil r0
 obtain rfl : args = #[v0] := by cases args; simp_all
 obtain ⟨rfl, rfl⟩ := trodVars_none hV
 have lt0 : ∀ x ∈ p0, x.block < W.heap.size := by obtain ⟨m, hm⟩ := h0; exact DataW.trod_lt m _ _ _ hm
 have k0 := hval 0 22 v0 rfl rfl
 clear hA0 hval0
 refine (fnExactLinkUnits_walk W base v0 k0 h0 hsh).mono fun e W' ⟨he, bel⟩ => ?_
 subst he
 exact ⟨_, rfl, _, _, _, [], _, [], hW', trodAll_mk1 (shut_bool Tryz.underlying4 _), (trodAll_cons_mk (Below.trod laidOut qab (of_decide_eq_true qab) h0 bel lt0) trodAll_mk0), rfl, bel.frame _, fun h => by cases h⟩
theorem fnExactLinkUnits_holds : Rows.FnExactLinkUnitsSaid :=
 OpenClaim.holds_of_wide 3 Tryz.f3 rfl rfl rfl rfl rfl rfl rfl ⟨rfl, rfl, rfl, rfl, rfl⟩ rfl rfl rfl rfl rfl qab Tryz.func3 qab
  (of_decide_eq_true qab) (by unfold Func.isWrapper; rw [if_neg (of_decide_eq_false qab)]; exact ⟨rfl, rfl⟩)
  (fun os started H enc _ => fnExactLinkUnits_lifted os started H enc)
theorem fnExactLinkUnits_card_holds : Rows.FnExactLinkUnitsCardSaid :=
 Claim7.holds_tied_plain_at .later [] [.data, .pinned] true (true, "8d3d491a31342c2a8a08da0e517bc3a1106a0a22eba69f048a36ad068eb29874") false fnExactLinkUnits_holds (fun _ h => by cases h) qab (fun _ h => by cases h) fnExactLinkUnits_row_tie rfl ⟨rfl, rfl⟩ qab rfl
  (fun f fn hf hfn => by
   obtain rfl : f = 3 := Option.some.inj ((show Tryz.prog.funcNamed "loop.example/g03011/laws.FnExactLinkUnits" = some 3 by kernel_rfl).symm.trans hf) |>.symm
   obtain rfl : fn = Tryz.f3 := (Option.some.inj (Tryz.func3.symm.trans hfn)).symm
   exact ⟨by kernel_rfl, fun j t ht => by
    rw [Tryz.params3] at ht
    have hm : t ∈ [22] := by simpa using Array.mem_of_getElem? ht
    have hall : ([22].all fun u => !Tryz.prog.wantsStandIn u) = true := by kernel_rfl
    exact (show Tryz.prog.wantsStandIn t = false by simpa using List.all_eq_true.1 hall t hm)⟩)
  qab
#print axioms fnExactLinkUnits_card_holds
end Go.Proofs.YtkkjnfappndmpaaGreatDoor
