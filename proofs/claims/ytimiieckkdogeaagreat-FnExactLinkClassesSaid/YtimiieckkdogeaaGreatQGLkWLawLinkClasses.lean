/-
  The law of LinkClasses: on every list of scripts the program links the classes that the reference links, and the same code. Conditions: none.
-/
import Derived.Test.YtimiieckkdogeaaGreatQLmL
import Derived.Test.YtimiieckkdogeaaGreatQEqL
import Derived.Test.YtimiieckkdogeaaGreatQMkL
import Derived.Test.YtimiieckkdogeaaGreatQGBaseNd
import Derived.HandedShaped
set_option linter.unusedVariables false
set_option linter.unusedSimpArgs false
namespace Go.Proofs.YtimiieckkdogeaaGreat
open Go.ChangeShapes Go.WideShapes Go.ChangeAt Go.RowKit Go.Deep Go.Joins
theorem owni_len {w : World} {lo hi e k n m c : Nat} {xs : List Cel} {A : Option Addr} (h : OwnI w lo hi [.s e k n xs] [.slice A m c]) : m = n := by
  obtain ⟨A', c', e'⟩ := h.form
  injection e' with _ h1 _
theorem LinkW_impl (l : List FNode) (u : Value) (w : World) (hw : l.length + FNode.wts l ≤ 900000000) {B : Nat} (hmx : MaxAt w) (hB0 : B ≤ w.heap.size) (hr : RdC w B (.s 61 4 l.length (FNode.flat l)) u) :
    Calls Tryz.prog 8 #[u] w fun e w' => ∃ A c, e = .returned (.tuple #[.slice A (linkL l).2.length c, .int .i64 (linkL l).1]) ∧ OwnI w' w.heap.size w'.heap.size [.s 40 4 (linkL l).2.length (FClass.flat (linkL l).2)] [.slice A (linkL l).2.length c] ∧ Below w.heap.size w w' := by
  obtain ⟨A, c, rfl⟩ := hr.form
  refine (LinkClasses_impl l hw A c w hB0 hmx hr).mono fun e w' h => ?_
  obtain ⟨A', n, c', h1, h2, h3⟩ := h
  obtain rfl := owni_len h2
  exact ⟨A', c', h1, h2, h3⟩
theorem LinkW_spec (l : List FNode) (u : Value) (w : World) (hw : l.length + FNode.wts l ≤ 900000000) {B : Nat} (hB0 : B ≤ w.heap.size) (hr : RdC w B (.s 61 4 l.length (FNode.flat l)) u) :
    Calls Tryz.prog 6 #[u] w fun e w' => ∃ A c, e = .returned (.tuple #[.slice A (linkL l).2.length c, .int .i64 (linkL l).1]) ∧ OwnI w' w.heap.size w'.heap.size [.s 40 4 (linkL l).2.length (FClass.flat (linkL l).2)] [.slice A (linkL l).2.length c] ∧ Below w.heap.size w w' := by
  obtain ⟨A, c, rfl⟩ := hr.form
  refine (LinkClasses_spec l hw A c w hB0 hr).mono fun e w' h => ?_
  obtain ⟨A', n, c', h1, h2, h3⟩ := h
  obtain rfl := owni_len h2
  exact ⟨A', c', h1, h2, h3⟩
theorem lk_eq (l : List FNode) (hw : FNode.wts l ≤ 1048576) : (linkL l).2.length ≤ 1000000000 ∧ EqClassS (linkL l).2 := by
  obtain ⟨h1, h2⟩ := link_good l
  have h3 := names_len l
  refine ⟨by omega, eqClassS_of _ (by omega) fun x hx => ?_⟩
  have hg := h1 x hx
  have hf := hg.f.len
  have hm := hg.m.len
  obtain ⟨a, b, fs, ms⟩ := x
  refine eqClass_of a b fs ms (eqFieldS_of fs (by have h4 : fs.length ≤ _ := hf; omega) fun f hf => ?_) (eqMethodS_of ms (by have h4 : ms.length ≤ _ := hm; omega) fun f hf => ?_)
  · obtain ⟨hp, -⟩ := hg.f.mem f hf
    obtain ⟨c0, c1, c2, ⟨c3, c4, c5, c6, c7⟩⟩ := f
    obtain ⟨p1, p2, p3, p4⟩ := hp
    exact eqField_any _ (by
      have e7 : c7 = [] := p4
      have q1 : c0.size ≤ 1000 := p1
      have q2 : c1.size ≤ 1000 := p2
      have q3 : c5.size ≤ 1000 := p3
      rw [FField.wt_eq, e7]
      simp [FEntry.wts]
      omega)
  · obtain ⟨hp, -⟩ := hg.m.mem f hf
    obtain ⟨c0, c1, c2, c3, c4⟩ := f
    obtain ⟨p1, p2, p3⟩ := hp
    exact eqMethod_any _ (by
      have q1 : c0.size ≤ 1000 := p1
      have q2 : c1.size ≤ 1000 := p2
      have q3 : c2.size ≤ 1000 := p3
      rw [FMethod.wt_eq]
      omega)
theorem cnt_F : ∀ (l : List FField), (∀ f, f ∈ l → f.plain) → cntL (FField.flat l) ≤ 8 * l.length
  | [], _ => by simp [FField.flat, cntL]
  | x :: r, h => by
    have ih := cnt_F r fun y hy => h y (List.mem_cons_of_mem _ hy)
    have hx := h x (List.mem_cons_self ..)
    obtain ⟨a, b, p, ⟨k, n, s, y, l⟩⟩ := x
    obtain rfl : l = [] := hx.2.2.2
    have e1 : FField.flat (⟨a, b, p, ⟨k, n, s, y, []⟩⟩ :: r) = FField.c ⟨a, b, p, ⟨k, n, s, y, []⟩⟩ ++ FField.flat r := List.flatMap_cons
    rw [e1, cntL_append, FField.c_eq, List.length_cons]
    have : cntL [Cel.v (.string a), .v (.string b), .v (.bool p), .v (.int .i64 k), .v (.int .i64 n), .v (.string s), .v (.int .i64 y), .s 108 8 ([] : List FEntry).length (FEntry.flat [])] ≤ 8 := by simp [cntL, Cel.cnt, FEntry.flat]
    omega
theorem cnt_M : ∀ (l : List FMethod), cntL (FMethod.flat l) ≤ 5 * l.length
  | [] => by simp [FMethod.flat, cntL]
  | x :: r => by
    have ih := cnt_M r
    obtain ⟨a, b, p, k, n⟩ := x
    have e1 : FMethod.flat (⟨a, b, p, k, n⟩ :: r) = FMethod.c ⟨a, b, p, k, n⟩ ++ FMethod.flat r := List.flatMap_cons
    rw [e1, cntL_append, FMethod.c_eq, List.length_cons]
    have : cntL [Cel.v (.string a), .v (.string b), .v (.string p), .v (.bool k), .v (.bool n)] ≤ 5 := by simp [cntL, Cel.cnt]
    omega
theorem cnt_K (M : Nat) : ∀ (l : List FClass), (∀ c, c ∈ l → PlC c ∧ c.fields.length ≤ M ∧ c.methods.length ≤ M) → cntL (FClass.flat l) ≤ l.length * (2 + 13 * M)
  | [], _ => by simp [FClass.flat, cntL]
  | x :: r, h => by
    have ih := cnt_K M r fun y hy => h y (List.mem_cons_of_mem _ hy)
    obtain ⟨h1, h2, h3⟩ := h x (List.mem_cons_self ..)
    obtain ⟨a, b, fs, ms⟩ := x
    have e1 : FClass.flat (⟨a, b, fs, ms⟩ :: r) = FClass.c ⟨a, b, fs, ms⟩ ++ FClass.flat r := List.flatMap_cons
    have f1 := cnt_F fs h1
    have f2 := cnt_M ms
    have h2' : fs.length ≤ M := h2
    have h3' : ms.length ≤ M := h3
    rw [e1, cntL_append, FClass.c_eq, List.length_cons, Nat.succ_mul]
    have : cntL [Cel.v (.string a), .v (.string b), .s 51 8 fs.length (FField.flat fs), .s 44 5 ms.length (FMethod.flat ms)] ≤ 2 + (cntL (FField.flat fs) + cntL (FMethod.flat ms)) := by simp [cntL, Cel.cnt]; omega
    omega
theorem lk_cnt (l : List FNode) (hw : FNode.wts l ≤ 1048576) : cntL (FClass.flat (linkL l).2) ≤ 20000000000000 := by
  obtain ⟨h1, h2⟩ := link_good l
  have h3 := names_len l
  have h4 := cnt_K 1048577 (linkL l).2 fun c hc => ⟨fun x hx => ((h1 c hc).f.mem x hx).1, by have := (h1 c hc).f.len; omega, by have := (h1 c hc).m.len; omega⟩
  have h5 : (linkL l).2.length * (2 + 13 * 1048577) ≤ 1048577 * (2 + 13 * 1048577) := Nat.mul_le_mul_right _ (by omega)
  omega
end Go.Proofs.YtimiieckkdogeaaGreat
namespace Go.Proofs.YtimiieckkdogeaaGreat
set_option maxHeartbeats 40000000
open Lib (hid)
open Go.ChangeShapes Go.WideShapes Go.ChangeAt Go.RowKit Go.Deep Go.Joins
open Go.ChangeMaps (open_string shut_string)
set_option maxRecDepth 100000

/-- What make lays, as a list of values. -/
def madeL (z : Array Value) (n : Nat) : List Value := (madeCells z n).toList
theorem own_madeL (w : World) (z : Array Value) (n k : Nat) (t : TypeId) (hz : z.size = k) (hk : 0 < k) (hn : n ≤ maxLen) : (w.alloc (.cells (madeCells z (n * k)) t)).ownsRow w.heap.size t k (.slice (some ⟨w.heap.size, 0, none⟩) n n) n ([] ++ madeL z (n * k)) := by
  rw [List.nil_append]
  have hsz : (madeCells z (n * k)).size = n * k := by simp [madeCells]
  refine ⟨by simp [madeL, hsz], .inr ⟨w.heap.size, n, madeCells z (n * k), rfl, Nat.le_refl _, heap_alloc_new w _, Nat.le_refl _, hn, hsz, ?_⟩⟩
  unfold madeL
  rw [List.take_of_length_le (by simp [hsz])]
theorem own_rowf {w : World} {base k n c g : Nat} {e : TypeId} {xs : List Value} (h : w.ownsRow base e k (.slice (some ⟨g, 0, none⟩) n c) n xs) : ∃ (g1 : Nat) (f : Nat → Value), w.rowIs g e (c * k) f := by
  rcases own_row h with ⟨hv, _⟩ | ⟨g1, cap, f, hv, _, _, _, hrow, _⟩
  · cases hv
  · simp only [Value.slice.injEq, Option.some.injEq, Addr.mk.injEq, true_and, and_true] at hv
    obtain ⟨rfl, rfl⟩ := hv
    exact ⟨g, f, hrow⟩
def ToNode (x : FNode) : Prop := ∀ (us : List Value) (w : World) (B : Nat), B ≤ w.heap.size → RdVs w B x.c us → Calls Tryz.prog 27 #[.agg us.toArray] w fun e w' => ∃ us', e = .returned (.agg us'.toArray) ∧ OwnI w' w.heap.size w'.heap.size x.c us' ∧ Below w.heap.size w w'
def ToNodeS (l : List FNode) : Prop := ∀ (u : Value) (w : World) (B : Nat), B ≤ w.heap.size → RdC w B (.s 61 4 l.length (FNode.flat l)) u → Calls Tryz.prog 7 #[u] w fun e w' => ∃ A c, e = .returned (.slice A l.length c) ∧ OwnI w' w.heap.size w'.heap.size [.s 61 4 l.length (FNode.flat l)] [.slice A l.length c] ∧ Below w.heap.size w w'
theorem toNode_of (z0 : Int) (z1 : Int) (z2 : ByteArray) (z3 : List FNode) (h3 : ToNodeS z3) : ToNode ⟨z0, z1, z2, z3⟩ := by
  intro us w B hB0 hr
  rw [FNode.c_eq] at hr ⊢
  obtain ⟨us0, rfl, hr_0⟩ := hr.unv
  obtain ⟨us1, rfl, hr_1⟩ := hr_0.unv
  obtain ⟨us2, rfl, hr_2⟩ := hr_1.unv
  obtain ⟨A3, c3, us3, rfl, r3, hr_3⟩ := hr_2.uns
  obtain rfl := hr_3.un0
  have R3 := hid r3
  clear r3
  have H3 := hid h3
  clear h3
  go_enter Tryz.func27, Tryz.ntmps27
  go_wp2_with fail
  refine calls_worldD _ (fun X => Blk X (w.heap.size) 57 #[.int .i64 z0, .int .i64 z1, .string z2, .slice A3 z3.length c3] ∧ Blk X (w.heap.size + 1) 61 #[.int .i64 0, .int .i64 0, .string ⟨#[]⟩, .slice none 0 0] ∧ Blk X (w.heap.size + 1 + 1) 61 #[.int .i64 z0, .int .i64 z1, .string z2, .slice none 0 0] ∧ Below w.heap.size w X) ⟨((Blk.new w _ _).alloc _).alloc _, (Blk.new' (w.alloc _) _ _ _ (by simp)).alloc _, Blk.new' ((w.alloc _).alloc _) _ _ _ (by simp), ((((Below.refl _ _).alloc (Nat.le_refl _) _).alloc (by simp) _).alloc (by simp; omega) _)⟩ ?_
  rintro X0 ⟨ba, br, bo, hB⟩
  have s0 := bo.lt
  refine (H3.out _ _ B (by omega) (R3.out.below hB hB0)).mono ?_
  rintro e Y0 ⟨D3, d3, rfl, own, hb⟩
  have o3 := own
  clear own
  replace ba := ba.below hb (Nat.le_refl _)
  replace br := br.below hb (Nat.le_refl _)
  replace bo := bo.below hb (Nat.le_refl _)
  replace hB := hB.trans (hb.mono (by omega))
  have t0 : X0.heap.size ≤ Y0.heap.size := hb.size
  clear hb
  have ba_l := ba.lt
  have ba_f := fun i => ba.frozen i
  have br_0 : Y0.cell? ⟨w.heap.size + 1, 0, none⟩ = some (.int .i64 0) := br.cell 0
  have br_1 : Y0.cell? ⟨w.heap.size + 1, 1, none⟩ = some (.int .i64 0) := br.cell 1
  have br_2 : Y0.cell? ⟨w.heap.size + 1, 2, none⟩ = some (.string ⟨#[]⟩) := br.cell 2
  have br_3 : Y0.cell? ⟨w.heap.size + 1, 3, none⟩ = some (.slice none 0 0) := br.cell 3
  have br_l := br.lt
  have br_f := fun i => br.frozen i
  have bo_0 : Y0.cell? ⟨w.heap.size + 1 + 1, 0, none⟩ = some (.int .i64 z0) := bo.cell 0
  have bo_1 : Y0.cell? ⟨w.heap.size + 1 + 1, 1, none⟩ = some (.int .i64 z1) := bo.cell 1
  have bo_2 : Y0.cell? ⟨w.heap.size + 1 + 1, 2, none⟩ = some (.string z2) := bo.cell 2
  have bo_3 : Y0.cell? ⟨w.heap.size + 1 + 1, 3, none⟩ = some (.slice none 0 0) := bo.cell 3
  have bo_l := bo.lt
  have bo_f := fun i => bo.frozen i
  go_wp2_with fail
  skip
  refine bodyPost_ret (v := .agg #[.int .i64 z0, .int .i64 z1, .string z2, .slice D3 z3.length d3]) (by simp [results, Tryz.results27, go_sem, br_0, br_1, br_2, br_3, bo_0, bo_1, bo_2, bo_3, br_l, br_f, bo_l, bo_f]) rfl ⟨_, rfl, ?_, ?_⟩
  · refine OwnI.wide (lo := X0.heap.size) (hi := Y0.heap.size) ?_ (by omega) (by simp)
    repeat (refine OwnI.set ?_ (.inl (by simp; omega)) _)
    exact (OwnI.consv (OwnI.consv (OwnI.consv (OwnI.app (m := Y0.heap.size) (hi := Y0.heap.size) o3 (OwnI.wide (lo' := Y0.heap.size) (hi' := Y0.heap.size) (OwnI.nil _ Y0.heap.size Y0.heap.size) (by omega) (by omega)) (Nat.le_refl _) (by omega) (by omega)) _) _) _)
  · repeat (refine Below.setCell ?_ (by simp; try omega) _)
    exact hB
theorem infoNode : (Tryz.prog.info? 61).map (fun i => (i.zero.map Value.cells, i.size, i.bytes)) = some (some #[.int .i64 0, .int .i64 0, .string ByteArray.empty, .slice none 0 0], 4, 56) := by kernel_rfl
theorem toNodeS_of (l : List FNode) (hl : l.length ≤ 1048576) (he : ∀ x, x ∈ l → ToNode x) : ToNodeS l := by
  intro u w B hB0 hr0
  have hr := hr0.up hB0
  clear hr0
  obtain ⟨A, c, rfl⟩ := hr.form
  have HC := hid hr
  have hcap := hr.cap
  have hn : l.length ≤ 9223372036854775807 := by omega
  have hmk := fun W => make_law (P := Tryz.prog) 27 61 _ 4 56 Tryz.underlying27 infoNode l.length (by omega) hn W
  have HE := hid he
  clear he
  clear hr hcap
  go_enter Tryz.func7, Tryz.ntmps7
  go_wp2
  go_loopw [4] (fun i wr => ∃ k : Nat, k ≤ l.length ∧ i = .int .i64 k ∧ (∃ us zs, us.length = k * 4 ∧ zs.length = (l.length - k) * 4 ∧ wr.ownsRow w.heap.size 61 4 (.slice (some ⟨w.heap.size, 0, none⟩) l.length l.length) l.length (us ++ zs) ∧ OwnI wr (w.heap.size + 1) wr.heap.size (FNode.flat (l.take k)) us) ∧ Below w.heap.size w wr) (fun i _ => l.length - (intOf i).toNat)
  case atStart => exact ⟨0, Nat.zero_le _, rfl, ⟨[], madeL #[.int .i64 0, .int .i64 0, .string ByteArray.empty, .slice none 0 0] (l.length * 4), by simp, by simp [madeL, size_madeCells], own_madeL w _ l.length 4 _ rfl (by omega) (by unfold maxLen; omega), OwnI.nil _ _ _⟩, (Below.refl _ _).alloc (Nat.le_refl _) _⟩
  case round =>
    obtain ⟨k, hk, rfl, ⟨us, zs, hus, hzs, hrow, hown⟩, hb⟩ := hrel
    have HROW := hid hrow
    have HOWN := hid hown
    have HUS := hid hus
    have HZS := hid hzs
    have hsz : w.heap.size < wr.heap.size := (hrow.lt _ rfl).2
    clear hmk hrow hown hus hzs
    by_cases hlt : k < l.length
    · obtain ⟨x, hx⟩ : ∃ x, l[k]? = some x := ⟨_, List.getElem?_eq_getElem hlt⟩
      obtain ⟨bc, offc, rfl, hblc, hcc⟩ := RdC.at_ FNode.len HC.out hx
      obtain ⟨z0, z1, z2, z3⟩ := x
      rw [FNode.c_eq] at hcc
      obtain ⟨u0, e0, q0⟩ := hcc 0 _ rfl
      obtain rfl := q0.val
      clear q0
      have c_0 : wr.cell? ⟨bc, offc + k * 4, none⟩ = some (.int .i64 z0) := (hb.cell (p := ⟨bc, _, none⟩) hblc).trans (by simpa using e0)
      obtain ⟨u1, e1, q1⟩ := hcc 1 _ rfl
      obtain rfl := q1.val
      clear q1
      have c_1 : wr.cell? ⟨bc, offc + k * 4 + 1, none⟩ = some (.int .i64 z1) := (hb.cell (p := ⟨bc, _, none⟩) hblc).trans (by simpa using e1)
      obtain ⟨u2, e2, q2⟩ := hcc 2 _ rfl
      obtain rfl := q2.val
      clear q2
      have c_2 : wr.cell? ⟨bc, offc + k * 4 + 2, none⟩ = some (.string z2) := (hb.cell (p := ⟨bc, _, none⟩) hblc).trans (by simpa using e2)
      obtain ⟨u3, e3, q3⟩ := hcc 3 _ rfl
      obtain ⟨A3, c3, rfl⟩ := q3.form
      have Q3 := hid q3
      clear q3
      have c_3 : wr.cell? ⟨bc, offc + k * 4 + 3, none⟩ = some (.slice A3 z3.length c3) := (hb.cell (p := ⟨bc, _, none⟩) hblc).trans (by simpa using e3)
      obtain ⟨g1, f1, hrow1⟩ := own_rowf HROW.out
      have HX := hid hx
      clear hcc hx e0 e1 e2 e3
      have HT := hid (HE.out _ (List.mem_of_getElem? HX.out))
      have HV := hid (show RdVs wr w.heap.size (FNode.c ⟨z0, z1, z2, z3⟩) [.int .i64 z0, .int .i64 z1, .string z2, .slice A3 z3.length c3] from by rw [FNode.c_eq]; exact (RdVs.cons (by unfold RdC; rfl) (RdVs.cons (by unfold RdC; rfl) (RdVs.cons (by unfold RdC; rfl) (RdVs.cons (Q3.out.below hb (Nat.le_refl _)) (RdVs.nil _ _))))))
      go_wp2_with fail
      refine (HT.out _ _ w.heap.size (by omega) HV.out).mono ?_
      rw [FNode.c_eq]
      rintro e w2 ⟨us2, rfl, own2, hb2⟩
      have hv := own2.vs
      obtain ⟨us2_0, rfl, hv_0⟩ := hv.unv
      obtain ⟨us2_1, rfl, hv_1⟩ := hv_0.unv
      obtain ⟨us2_2, rfl, hv_2⟩ := hv_1.unv
      obtain ⟨D3, d3, us2_3, rfl, _, hv_3⟩ := hv_2.uns
      obtain rfl := hv_3.un0
      have OWN2 := hid own2
      have row2 : w2.rowIs w.heap.size 61 (l.length * 4) f1 := hrow1.of_block (hb2.block _ hrow1.lt)
      have ROW2 := hid (own_below HROW.out hb2 (Nat.le_refl _))
      have hsz2 : wr.heap.size ≤ w2.heap.size := hb2.size
      have hB2 := hb.trans (hb2.mono hb.size)
      have HOWN2 := hid (HOWN.out.below hb2 (Nat.le_refl _))
      have r0 := row2.cell (i := k * 4) (by omega)
      have f0_ := row2.frozen (k * 4)
      have r1 := row2.cell (i := k * 4 + 1) (by omega)
      have f1_ := row2.frozen (k * 4 + 1)
      have r2 := row2.cell (i := k * 4 + 2) (by omega)
      have f2_ := row2.frozen (k * 4 + 2)
      have r3 := row2.cell (i := k * 4 + 3) (by omega)
      have f3_ := row2.frozen (k * 4 + 3)
      clear own2 row2 hrow1 c_0 c_1 c_2 c_3
      go_wp2_with fail
      go_roundw
      case rel =>
        have hflat : FNode.flat (l.take (k + 1)) = FNode.flat (l.take k) ++ [.v (.int .i64 z0), .v (.int .i64 z1), .v (.string z2), .s 61 4 z3.length (FNode.flat z3)] := by
          rw [List.take_add_one, HX.out]
          simp [FNode.c_eq]
        have hset := sets_app [.int .i64 z0, .int .i64 z1, .string z2, .slice D3 z3.length d3] us zs (k * 4) HUS.out (by rw [HZS.out]; simp; omega)
        refine ⟨k + 1, by omega, by go_num, ⟨us ++ [.int .i64 z0, .int .i64 z1, .string z2, .slice D3 z3.length d3], zs.drop 4, by simp [HUS.out]; try omega, by rw [List.length_drop, HZS.out]; omega, ?_, ?_⟩, ((((hB2.setCell (by simp) _).setCell (by simp) _).setCell (by simp) _).setCell (by simp) _)⟩
        · have hfin := (own_setC (own_setC (own_setC (own_setC ROW2.out (i := k * 4) (by omega) (.int .i64 z0)) (i := k * 4 + 1) (by omega) (.int .i64 z1)) (i := k * 4 + 2) (by omega) (.string z2)) (i := k * 4 + 3) (by omega) (.slice D3 z3.length d3))
          rw [show us ++ [.int .i64 z0, .int .i64 z1, .string z2, .slice D3 z3.length d3] ++ zs.drop 4 = _ from hset.symm]
          simpa [sets] using hfin
        · rw [hflat]
          have hfin := (OwnI.set (OwnI.set (OwnI.set (OwnI.set (OwnI.app (m := wr.heap.size) (lo' := wr.heap.size) (hi := w2.heap.size) HOWN2.out OWN2.out (Nat.le_refl _) (by omega) (by omega)) (p := ⟨w.heap.size, k * 4, none⟩) (.inl (by simp)) (.int .i64 z0)) (p := ⟨w.heap.size, k * 4 + 1, none⟩) (.inl (by simp)) (.int .i64 z1)) (p := ⟨w.heap.size, k * 4 + 2, none⟩) (.inl (by simp)) (.string z2)) (p := ⟨w.heap.size, k * 4 + 3, none⟩) (.inl (by simp)) (.slice D3 z3.length d3))
          exact hfin.wide (Nat.le_refl _) (by simp)
      case measure => simp [intOf]; omega
    · obtain rfl : k = l.length := by omega
      clear hlt
      go_wp2_with fail
      go_ret
      have hz0 : zs = [] := List.eq_nil_of_length_eq_zero (by rw [HZS.out]; simp)
      have hr1 := HROW.out
      have ho1 := HOWN.out
      rw [hz0, List.append_nil] at hr1
      rw [List.take_length] at ho1
      exact ⟨_, _, rfl, OwnI.mk hr1 ho1 (fun g hg => by have : w.heap.size = g := by simpa [Value.ownBlock] using hg
                                                        omega) (by omega) (Nat.le_refl _), hb⟩
mutual
theorem toNode_any : ∀ (x : FNode), x.wt ≤ 1048576 → ToNode x
  | .mk a0 a1 a2 a3, hw => by
    unfold FNode.wt at hw
    exact toNode_of a0 a1 a2 a3 (toNodeS_of a3 (by omega) (toNode_all a3 (by omega)))
theorem toNode_all : ∀ (l : List FNode), l.length + FNode.wts l ≤ 1048576 → ∀ x, x ∈ l → ToNode x
  | [], _, x, hx => by cases hx
  | y :: r, hw, x, hx => by
    unfold FNode.wts at hw
    simp only [List.length_cons] at hw
    rcases List.mem_cons.1 hx with e | hx
    · rw [e]
      exact toNode_any y (by omega)
    · exact toNode_all r (by omega) x hx
end
theorem toNodeS_any (l : List FNode) (hw : l.length + FNode.wts l ≤ 1048576) : ToNodeS l := (toNodeS_of l (by omega) (toNode_all l hw))
end Go.Proofs.YtimiieckkdogeaaGreat
namespace Go.Proofs.YtimiieckkdogeaaGreat
set_option maxHeartbeats 40000000
open Lib (hid)
open Go.ChangeShapes Go.WideShapes Go.ChangeAt Go.RowKit Go.Deep Go.Joins
open Go.ChangeMaps (open_string shut_string)
set_option maxRecDepth 100000
def SzNode (x : FNode) : Prop := ∀ (us : List Value) (left : Int) (w : World) (B : Nat), 0 ≤ left → left ≤ 1048576 → B ≤ w.heap.size → RdVs w B x.c us → Calls Tryz.prog 21 #[.agg us.toArray, .int .i64 left] w fun e w' => e = .returned (.int .i64 (bud left x.wt)) ∧ Below w.heap.size w w'
def SzNodeS (l : List FNode) : Prop := ∀ (u : Value) (left : Int) (w : World) (B : Nat), 0 ≤ left → left ≤ 1048576 → B ≤ w.heap.size → RdC w B (.s 61 4 l.length (FNode.flat l)) u → Calls Tryz.prog 5 #[u, .int .i64 left] w fun e w' => e = .returned (.int .i64 (bud left (l.length + FNode.wts l))) ∧ Below w.heap.size w w'
theorem szNode_of (z0 : Int) (z1 : Int) (z2 : ByteArray) (z3 : List FNode) (hok : FNode.ok ⟨z0, z1, z2, z3⟩) (h3 : SzNodeS z3) : SzNode ⟨z0, z1, z2, z3⟩ := by
  intro us left w B hl0 hl1 hB0 hr
  rw [FNode.c_eq] at hr
  rw [FNode.wt_eq]
  rw [FNode.ok_eq] at hok
  obtain ⟨us0, rfl, hr_0⟩ := hr.unv
  obtain ⟨us1, rfl, hr_1⟩ := hr_0.unv
  obtain ⟨us2, rfl, hr_2⟩ := hr_1.unv
  obtain ⟨A3, c3, us3, rfl, r3, hr_3⟩ := hr_2.uns
  obtain rfl := hr_3.un0
  clear hr hr_0 hr_1 hr_2 hr_3
  have R3 := hid r3
  clear r3
  have H3 := hid h3
  clear h3
  have ks2 := hok.1
  clear hok
  obtain ⟨W, hW⟩ : ∃ W : Nat, W = z2.size + (z3.length + FNode.wts z3) := ⟨_, rfl⟩
  rw [← hW]
  have HW := hid hW
  clear hW
  by_cases c2 : left - z2.size < 0
  case pos =>
    go_enter Tryz.func21, Tryz.ntmps21
    go_wp2_with fail
    go_ret
    exact ⟨ret_int (by rw [bud_neg (by have := HW.out; omega)]), (Below.refl _ _).alloc (Nat.le_refl _) _⟩
  go_enter Tryz.func21, Tryz.ntmps21
  go_wp2_with fail
  refine calls_worldD _ (fun X => Blk X w.heap.size 57 #[.int .i64 z0, .int .i64 z1, .string z2, .slice A3 z3.length c3] ∧ Below w.heap.size w X) ⟨Blk.new w _ _, (Below.refl _ _).alloc (Nat.le_refl _) _⟩ ?_
  rintro X0 ⟨ba, hB⟩
  have s0 := ba.lt
  refine (H3.out _ _ _ B (by omega) (by omega) (by omega) (R3.out.below hB hB0)).mono ?_
  generalize hq0 : (z3.length + FNode.wts z3 : Nat) = q0 at *
  have Q0 := hid hq0
  clear hq0
  rintro e Y0 ⟨rfl, hb⟩
  replace ba := ba.below hb (Nat.le_refl _)
  replace hB := hB.trans (hb.mono (by omega))
  clear hb
  by_cases f0 : (q0 : Int) ≤ left - z2.size
  case neg =>
    have e0 := bud_neg f0
    rw [e0]
    clear e0
    have ba_l := ba.lt
    go_wp2_with fail
    go_ret
    exact ⟨ret_int (by rw [bud_neg (by have := HW.out; have := Q0.out; omega)]), hB⟩
  have e0 := bud_pos f0
  rw [e0]
  clear e0
  have ba_l := ba.lt
  go_wp2_with fail
  go_ret
  exact ⟨ret_int (by have := HW.out; have := Q0.out; rw [bud_pos (by omega)]; omega), hB⟩
theorem szNodeS_of (l : List FNode) (he : ∀ x, x ∈ l → SzNode x) : SzNodeS l := by
  intro u left w B hl0 hl1 hB0 hr0
  have hr := hr0.up hB0
  clear hr0
  obtain ⟨A, c, rfl⟩ := hr.form
  have HC := hid hr
  have hcap := hr.cap
  have hcm : l.length ≤ 9223372036854775807 := by unfold maxLen at hcap; omega
  have HE := hid he
  clear hr hcap he
  by_cases hfit : left - l.length < 0
  · go_enter Tryz.func5, Tryz.ntmps5
    go_wp2_with fail
    go_ret
    exact ⟨ret_int (by rw [bud_neg (by omega)]), Below.refl _ _⟩
  go_enter Tryz.func5, Tryz.ntmps5
  go_wp2_with fail
  go_loopw [1, 5] (fun lv i wr => ∃ k : Nat, k ≤ l.length ∧ i = .int .i64 k ∧ lv = .int .i64 (left - l.length - (FNode.wts (l.take k) : Nat)) ∧ ((FNode.wts (l.take k) : Nat) : Int) ≤ left - l.length ∧ Below w.heap.size w wr) (fun _ i _ => l.length - (intOf i).toNat)
  case atStart => exact ⟨0, Nat.zero_le _, rfl, by simp [FNode.wts], by simp [FNode.wts]; omega, Below.refl _ _⟩
  case round =>
    obtain ⟨k, hk, rfl, rfl, hw, hb⟩ := hrel
    by_cases hlt : k < l.length
    · obtain ⟨x, hx⟩ : ∃ x, l[k]? = some x := ⟨_, List.getElem?_eq_getElem hlt⟩
      obtain ⟨bc, offc, rfl, hblc, hcc⟩ := RdC.at_ FNode.len HC.out hx
      have HZ := hid (HE.out x (List.mem_of_getElem? hx))
      have HT := hid (FNode.wts_take l k x hx)
      have HL := hid (FNode.wts_le l (k + 1))
      clear hx
      obtain ⟨z0, z1, z2, z3⟩ := x
      rw [FNode.c_eq] at hcc
      obtain ⟨u0, e0, q0⟩ := hcc 0 _ rfl
      obtain rfl := q0.val
      clear q0
      have c_0 : wr.cell? ⟨bc, offc + k * 4, none⟩ = some (.int .i64 z0) := (hb.cell (p := ⟨bc, _, none⟩) hblc).trans (by simpa using e0)
      obtain ⟨u1, e1, q1⟩ := hcc 1 _ rfl
      obtain rfl := q1.val
      clear q1
      have c_1 : wr.cell? ⟨bc, offc + k * 4 + 1, none⟩ = some (.int .i64 z1) := (hb.cell (p := ⟨bc, _, none⟩) hblc).trans (by simpa using e1)
      obtain ⟨u2, e2, q2⟩ := hcc 2 _ rfl
      obtain rfl := q2.val
      clear q2
      have c_2 : wr.cell? ⟨bc, offc + k * 4 + 2, none⟩ = some (.string z2) := (hb.cell (p := ⟨bc, _, none⟩) hblc).trans (by simpa using e2)
      obtain ⟨u3, e3, q3⟩ := hcc 3 _ rfl
      obtain ⟨A3, c3, rfl⟩ := q3.form
      have R3 := hid q3
      clear q3
      have c_3 : wr.cell? ⟨bc, offc + k * 4 + 3, none⟩ = some (.slice A3 z3.length c3) := (hb.cell (p := ⟨bc, _, none⟩) hblc).trans (by simpa using e3)
      clear hcc e0 e1 e2 e3
      generalize hu : FNode.wts (l.take k) = U at *
      have HU := hid hu
      clear hu
      generalize hv : FNode.wt ⟨z0, z1, z2, z3⟩ = V at *
      have HV := hid hv
      clear hv
      by_cases hf : (V : Int) ≤ left - l.length - U
      · have hbp : 0 ≤ bud (left - l.length - U) V := by rw [bud_pos hf]; omega
        have HBP := hid (bud_pos hf)
        go_wp2_with fail
        refine (HZ.out [.int .i64 z0, .int .i64 z1, .string z2, .slice A3 z3.length c3] _ _ w.heap.size (by omega) (by omega) (by have := hb.size; omega) (by rw [FNode.c_eq]; exact (RdVs.cons (by unfold RdC; rfl) (RdVs.cons (by unfold RdC; rfl) (RdVs.cons (by unfold RdC; rfl) (RdVs.cons (R3.out.below hb (Nat.le_refl _)) (RdVs.nil _ _))))))).mono ?_
        rw [HV.out]
        rintro e w2 ⟨rfl, hb2⟩
        go_wp2_with fail
        go_roundw
        case rel =>
          have e := HT.out
          have e9 := HV.out
          rw [← HU.out] at *
          refine ⟨k + 1, by omega, by go_num, ?_, by rw [e, HU.out]; omega, hb.trans (hb2.mono hb.size)⟩
          rw [HBP.out, e, HU.out]
          congr 1
          omega
        case measure => simp [intOf]; omega
      · have hbp : bud (left - l.length - U) V = -1 := bud_neg hf
        have hbn : bud (left - l.length - U) V < 0 := by rw [hbp]; omega
        clear hbp
        go_wp2_with fail
        refine (HZ.out [.int .i64 z0, .int .i64 z1, .string z2, .slice A3 z3.length c3] _ _ w.heap.size (by omega) (by omega) (by have := hb.size; omega) (by rw [FNode.c_eq]; exact (RdVs.cons (by unfold RdC; rfl) (RdVs.cons (by unfold RdC; rfl) (RdVs.cons (by unfold RdC; rfl) (RdVs.cons (R3.out.below hb (Nat.le_refl _)) (RdVs.nil _ _))))))).mono ?_
        rw [HV.out]
        rintro e w2 ⟨rfl, hb2⟩
        go_wp2_with fail
        go_ret
        refine ⟨ret_int ?_, hb.trans (hb2.mono hb.size)⟩
        have e := HT.out
        have e2 := HL.out
        have e3 := HU.out
        have e4 := HV.out
        rw [bud_neg (by omega)]
    · obtain rfl : k = l.length := by omega
      clear hlt
      go_wp2_with fail
      go_ret
      refine ⟨ret_int ?_, hb⟩
      rw [List.take_length] at *
      rw [bud_pos (by omega)]
      omega
mutual
theorem szNode_any : ∀ (x : FNode), x.ok → SzNode x
  | .mk a0 a1 a2 a3, hw => by
    have hw2 := hw
    unfold FNode.ok at hw2
    exact szNode_of a0 a1 a2 a3 hw (szNodeS_of a3 (szNode_all a3 hw2.2))
theorem szNode_all : ∀ (l : List FNode), FNode.oks l → ∀ x, x ∈ l → SzNode x
  | [], _, x, hx => by cases hx
  | y :: r, hw, x, hx => by
    unfold FNode.oks at hw
    rcases List.mem_cons.1 hx with e | hx
    · rw [e]
      exact szNode_any y hw.1
    · exact szNode_all r hw.2 x hx
end
theorem szNodeS_any (l : List FNode) (hw : FNode.oks l) : SzNodeS l := (szNodeS_of l (szNode_all l hw))
end Go.Proofs.YtimiieckkdogeaaGreat
namespace Go.Proofs.YtimiieckkdogeaaGreat
set_option maxHeartbeats 40000000
open Lib (hid)
open Go.ChangeShapes Go.WideShapes Go.ChangeAt Go.RowKit Go.Deep Go.Joins
open Go.ChangeMaps (open_string shut_string)
set_option maxRecDepth 100000

theorem fnExactLinkClasses_walk {H : Type} {enc : TypeId × Value → H} (W : World) (base : Nat) (v0 : Value) {d0 : DataW H} {p0 : List MemPlace}
    (k0 : Value.okWide Tryz.prog W .any base 22 v0)
    (h0 : DataW.Trod enc Tryz.prog W 0 (fun _ => true) true 22 v0 d0 p0) (hsh : W.ShapedOpen Tryz.prog) :
    Calls Tryz.prog 3 #[v0] W fun e w' => e = .returned (.bool true) ∧ Below W.heap.size W w' := by
  obtain ⟨A0, le0, c0, rfl⟩ := okWide_slice Tryz.underlying22 k0
  obtain ⟨fu0, hfu0⟩ := h0
  obtain ⟨v0, l0, ev0, r0, ok0⟩ := open_deep (ok := FNode.ok) 61 FNode.len (by omega) Tryz.underlying22 (by kernel_rfl) (fun m cs1 y1 _ h1 => read_Node m cs1 y1 h1) hfu0
  obtain rfl : Value.slice A0 le0 c0 = v0 := by simpa [Value.cells] using ev0
  obtain ⟨A0', c0', ef0⟩ := r0.form
  simp only [Value.slice.injEq] at ef0
  obtain ⟨rfl, rfl, rfl⟩ := ef0
  have R0 := hid r0
  have OK0 := hid (FNode.oks_of l0 ok0)
  clear r0 ok0 ev0 hfu0 k0
  have R := R0
  have OK := OK0
  clear R0 OK0
  by_cases hn : (((l0.length + FNode.wts l0) : Nat) : Int) ≤ 1048576
  case neg =>
    have HP := hid (bud_neg hn)
    have hp : bud 1048576 (l0.length + FNode.wts l0) < 0 := by rw [HP.out]; omega
    go_enter Tryz.func3, Tryz.ntmps3
    go_wp2_with fail
    have hB0 := Below.refl W.heap.size W
    refine (szNodeS_any l0 OK.out _ _ _ W.heap.size (by omega) (by omega) (by omega) (R.out.below hB0 (Nat.le_refl _))).mono ?_
    rintro e w1 ⟨rfl, hb⟩
    have hB := hB0.trans (hb.mono (by omega))
    go_wp2_with fail
    go_ret
    exact ⟨rfl, hB⟩
  have hw : (l0.length + FNode.wts l0) ≤ 1048576 := by omega
  have HWx := hid (show (l0.length + FNode.wts l0) ≤ 1000000000 by omega)
  have HP := hid (bud_pos hn)
  have hp : 0 ≤ bud 1048576 (l0.length + FNode.wts l0) := by rw [HP.out]; omega
  clear HP
  have HWl := hid (show l0.length + FNode.wts l0 ≤ 900000000 from by omega)
  have HMX := hid (MaxAt.shaped hsh)
  generalize hg0 : (linkL l0).1 = gb at *
  have HG0 := hid hg0
  clear hg0
  have hqw0 : (linkL l0).2.length ≤ 1000000000 ∧ EqClassS (linkL l0).2 := lk_eq l0 (by omega)
  have hqc0 := lk_cnt l0 (by omega)
  generalize hq0 : (linkL l0).2 = q0 at *
  have HQ0 := hid hq0
  clear hq0
  have HW0 := hid hqw0
  clear hqw0
  have hxc := cntb_NodeS l0
  obtain ⟨kx, hskx⟩ : ∃ k : Int, k = 1 + (cntL (FNode.flat l0) : Int) := ⟨_, rfl⟩
  have hkkx : kx = 1 + (cntL (FNode.flat l0) : Int) := hskx
  have npkx : 1 ≤ kx := by omega
  have nkkx : ¬ kx < 0 := by omega
  have dkkx : decide (kx < 0) = false := by simpa using nkkx
  have nbkx : kx ≤ 1000000000000 := by omega
  have HSkx := hid hskx
  have HKkx := hid hkkx
  clear hskx hkkx
  obtain ⟨m0, hsm0⟩ : ∃ k : Int, k = 1 + (cntL (FClass.flat q0) : Int) := ⟨_, rfl⟩
  have hkm0 : m0 = 1 + (cntL (FClass.flat q0) : Int) := hsm0
  have npm0 : 1 ≤ m0 := by omega
  have nkm0 : ¬ m0 < 0 := by omega
  have dkm0 : decide (m0 < 0) = false := by simpa using nkm0
  have nbm0 : m0 ≤ 100000000000000 := by omega
  have HSm0 := hid hsm0
  have HKm0 := hid hkm0
  clear hsm0 hkm0
  go_enter Tryz.func3, Tryz.ntmps3
  go_wp2_with fail
  have hB0 := Below.refl W.heap.size W
  refine (szNodeS_any l0 OK.out _ _ _ W.heap.size (by omega) (by omega) (by omega) (R.out.below hB0 (Nat.le_refl _))).mono ?_
  clear hB0
  rintro e w1 ⟨rfl, hb⟩
  have hB := hb
  have s1 : W.heap.size ≤ w1.heap.size := hb.size
  clear hb
  go_wp2_with fail
  refine (toNodeS_any l0 hw _ _ W.heap.size (by omega) (R.out.below hB (Nat.le_refl _))).mono ?_
  rintro e w2 ⟨U0, Uc0, rfl, own, hb⟩
  replace hB := hB.trans (hb.mono (by omega))
  have s2 : w1.heap.size ≤ w2.heap.size := hb.size
  clear hb
  have iu := own
  clear own
  go_wp2_with fail
  refine (LinkW_spec l0 _ _ HWl.out (B := w2.heap.size) (Nat.le_refl _) iu.read).mono ?_
  rw [HG0.out]
  rw [HQ0.out]
  rintro e w3 ⟨G0_0, Gc0_0, rfl, own0, hb⟩
  replace iu := iu.below hb (Nat.le_refl _)
  replace hB := hB.trans (hb.mono (by omega))
  have s3 : w2.heap.size ≤ w3.heap.size := hb.size
  clear hb
  have iw0 := own0
  clear own0
  clear iu
  go_wp2_with fail
  refine (toNodeS_any l0 hw _ _ W.heap.size (by omega) (R.out.below hB (Nat.le_refl _))).mono ?_
  rintro e w4 ⟨X0, Xc0, rfl, own, hb⟩
  replace iw0 := iw0.below hb (Nat.le_refl _)
  replace hB := hB.trans (hb.mono (by omega))
  have s4 : w3.heap.size ≤ w4.heap.size := hb.size
  clear hb
  have ix := own
  clear own
  go_wp2_with fail
  refine (LinkW_impl l0 _ _ HWl.out (B := w4.heap.size) (HMX.out.below hB) (Nat.le_refl _) ix.read).mono ?_
  rw [HG0.out]
  rw [HQ0.out]
  rintro e w5 ⟨Y0_0, Yc0_0, rfl, own0, hb⟩
  replace iw0 := iw0.below hb (Nat.le_refl _)
  replace ix := ix.below hb (Nat.le_refl _)
  replace hB := hB.trans (hb.mono (by omega))
  have s5 : w4.heap.size ≤ w5.heap.size := hb.size
  clear hb
  have ig0 := own0
  clear own0
  go_wp2_with fail
  refine (HW0.out.2 _ _ _ ig0.read iw0.read).mono ?_
  rintro e w6 ⟨rfl, hb⟩
  replace iw0 := iw0.below hb (Nat.le_refl _)
  replace ix := ix.below hb (Nat.le_refl _)
  replace ig0 := ig0.below hb (Nat.le_refl _)
  replace hB := hB.trans (hb.mono (by omega))
  have s6 : w5.heap.size ≤ w6.heap.size := hb.size
  clear hb
  go_wp2_with fail
  refine (toNodeS_any l0 hw _ _ W.heap.size (by omega) (R.out.below hB (Nat.le_refl _))).mono ?_
  rintro e w7 ⟨Z0, Zc0, rfl, own, hb⟩
  replace iw0 := iw0.below hb (Nat.le_refl _)
  replace ix := ix.below hb (Nat.le_refl _)
  replace ig0 := ig0.below hb (Nat.le_refl _)
  replace hB := hB.trans (hb.mono (by omega))
  have s7 : w6.heap.size ≤ w7.heap.size := hb.size
  clear hb
  have iz := own
  clear own
  go_wp2_with fail
  refine (eqNodeS_any l0 HWx.out _ _ _ ix.read iz.read).mono ?_
  rintro e w8 ⟨rfl, hb⟩
  replace iw0 := iw0.below hb (Nat.le_refl _)
  replace ix := ix.below hb (Nat.le_refl _)
  replace ig0 := ig0.below hb (Nat.le_refl _)
  replace iz := iz.below hb (Nat.le_refl _)
  replace hB := hB.trans (hb.mono (by omega))
  have s8 : w7.heap.size ≤ w8.heap.size := hb.size
  clear hb
  clear iz
  go_wp2_with fail
  have hcall := markNodeS_I l0 _ 1 _ _ w8 (by omega) (by rw [← HKkx.out]; omega) ix
  rw [← HSkx.out] at hcall
  refine hcall.mono ?_
  clear hcall
  rintro e w9 ⟨rfl, im, hb⟩
  replace iw0 := iw0.only hb (Nat.le_refl _) (by omega)
  replace ig0 := ig0.only hb (Nat.le_refl _) (by omega)
  replace hB := hB.trans (hb.below (by omega) (by omega))
  have s9 : w8.heap.size ≤ w9.heap.size := hb.size
  clear hb
  clear ix
  have ix := im
  clear im
  go_wp2_with fail
  refine (HW0.out.2 _ _ _ ig0.read iw0.read).mono ?_
  rintro e w10 ⟨rfl, hb⟩
  replace iw0 := iw0.below hb (Nat.le_refl _)
  replace ix := ix.below hb (Nat.le_refl _)
  replace ig0 := ig0.below hb (Nat.le_refl _)
  replace hB := hB.trans (hb.mono (by omega))
  have s10 : w9.heap.size ≤ w10.heap.size := hb.size
  clear hb
  go_wp2_with fail
  have hcall := markClassS_I q0 _ 1 _ _ w10 (by omega) (by rw [← HKm0.out]; omega) ig0
  rw [← HSm0.out] at hcall
  refine hcall.mono ?_
  clear hcall
  rintro e w11 ⟨rfl, im, hb⟩
  replace iw0 := iw0.only hb (Nat.le_refl _) (by omega)
  replace ix := ix.only hb (Nat.le_refl _) (by omega)
  replace hB := hB.trans (hb.below (by omega) (by omega))
  have s11 : w10.heap.size ≤ w11.heap.size := hb.size
  clear hb
  clear ig0
  have ig0 := im
  clear im
  go_wp2_with fail
  have hcall := heldClassS_any q0 _ 1 w11 (by omega) (by rw [← HKm0.out]; omega) ig0.read
  rw [← HSm0.out] at hcall
  refine hcall.mono ?_
  clear hcall
  rintro e w12 ⟨rfl, hb⟩
  replace iw0 := iw0.below hb (Nat.le_refl _)
  replace ix := ix.below hb (Nat.le_refl _)
  replace ig0 := ig0.below hb (Nat.le_refl _)
  replace hB := hB.trans (hb.mono (by omega))
  have s12 : w11.heap.size ≤ w12.heap.size := hb.size
  clear hb
  go_wp2_with fail
  refine (toNodeS_any l0 hw _ _ W.heap.size (by omega) (R.out.below hB (Nat.le_refl _))).mono ?_
  rintro e w13 ⟨V0, Vc0, rfl, own, hb⟩
  replace iw0 := iw0.below hb (Nat.le_refl _)
  replace ix := ix.below hb (Nat.le_refl _)
  replace ig0 := ig0.below hb (Nat.le_refl _)
  replace hB := hB.trans (hb.mono (by omega))
  have s13 : w12.heap.size ≤ w13.heap.size := hb.size
  clear hb
  have iv := own
  clear own
  go_wp2_with fail
  refine (LinkW_impl l0 _ _ HWl.out (B := w13.heap.size) (HMX.out.below hB) (Nat.le_refl _) iv.read).mono ?_
  rw [HG0.out]
  rw [HQ0.out]
  rintro e w14 ⟨K0_0, Kc0_0, rfl, own0, hb⟩
  replace iw0 := iw0.below hb (Nat.le_refl _)
  replace ix := ix.below hb (Nat.le_refl _)
  replace ig0 := ig0.below hb (Nat.le_refl _)
  replace iv := iv.below hb (Nat.le_refl _)
  replace hB := hB.trans (hb.mono (by omega))
  have s14 : w13.heap.size ≤ w14.heap.size := hb.size
  clear hb
  have ih0 := own0
  clear own0
  clear iv
  go_wp2_with fail
  refine (HW0.out.2 _ _ _ ih0.read iw0.read).mono ?_
  rintro e w15 ⟨rfl, hb⟩
  replace iw0 := iw0.below hb (Nat.le_refl _)
  replace ix := ix.below hb (Nat.le_refl _)
  replace ig0 := ig0.below hb (Nat.le_refl _)
  replace ih0 := ih0.below hb (Nat.le_refl _)
  replace hB := hB.trans (hb.mono (by omega))
  have s15 : w14.heap.size ≤ w15.heap.size := hb.size
  clear hb
  go_wp2_with fail
  have hcall := heldClassS_any q0 _ 1 w15 (by omega) (by rw [← HKm0.out]; omega) ig0.read
  rw [← HSm0.out] at hcall
  refine hcall.mono ?_
  clear hcall
  rintro e w16 ⟨rfl, hb⟩
  replace iw0 := iw0.below hb (Nat.le_refl _)
  replace ix := ix.below hb (Nat.le_refl _)
  replace ig0 := ig0.below hb (Nat.le_refl _)
  replace ih0 := ih0.below hb (Nat.le_refl _)
  replace hB := hB.trans (hb.mono (by omega))
  have s16 : w15.heap.size ≤ w16.heap.size := hb.size
  clear hb
  go_wp2_with fail
  go_ret
  exact ⟨rfl, hB⟩
theorem fnExactLinkClasses_lifted (os : Os) (started : os.Started) (H : Type) (enc : TypeId × Value → H) :
    ReturnsInHanded {} Tryz.checked os 3 .any (Rows.fnExactLinkClassesSpec.pre6 enc Tryz.prog Tryz.f3 Rows.fnExactLinkClassesRow.domain false) (Rows.fnExactLinkClassesSpec.post enc Tryz.prog Tryz.f3 false true false false) := by
  refine returnsInHanded_of_change_shaped (C := Tryz.checked) own started (by kernel_rfl) Tryz.func3
    (ChangeSpec.witness6 (enc := enc) (C := Tryz.checked) false ⟨#[], #[.slice none 0 0], []⟩ 8 (by kernel_rfl) (by kernel_rfl) (by kernel_rfl) (by kernel_rfl)) ?_
  intro W base args ds gs before hval0 hW hcnd _ hsh _
  have hval : ∀ (j : Nat) t v, Tryz.f3.params[j]? = some t → args[j]? = some v → Value.okWide Tryz.prog W .any base t v := hval0
  have hW' := hW
  obtain ⟨p, q, hA0, hV, rfl, hfz, hnd⟩ := hW
  have hA : DataW.TrodAll enc Tryz.prog W 0 (fun _ => true) true Tryz.f3.params.toList args.toList ds p := hA0
  rw [Tryz.params3] at hA hval
  obtain ⟨v0, vs0, d0, ds0, p0, q0, hargs, rfl, rfl, h0, r0⟩ := trodAll_cons hA
  obtain ⟨rfl, rfl, rfl⟩ := trodAll_nil r0
  obtain rfl : args = #[v0] := by cases args; simp_all
  obtain ⟨rfl, rfl⟩ := trodVars_none hV
  have lt0 : ∀ x ∈ p0, x.block < W.heap.size := by obtain ⟨m, hm⟩ := h0; exact DataW.trod_lt m _ _ _ hm
  have k0 := hval 0 22 v0 rfl rfl
  clear hA0 hval0
  refine (fnExactLinkClasses_walk W base v0 k0 h0 hsh).mono fun e W' ⟨he, bel⟩ => ?_
  subst he
  exact ⟨_, rfl, _, _, _, [], _, [], hW', trodAll_mk1 (shut_bool Tryz.underlying4 _), (trodAll_cons_mk (Below.trod laidOut (by kernel_rfl) (of_decide_eq_true (by kernel_rfl)) h0 bel lt0) trodAll_mk0), rfl, bel.frame _, fun h => by cases h⟩

theorem fnExactLinkClasses_holds : Rows.FnExactLinkClassesSaid :=
  OpenClaim.holds_of_wide 3 Tryz.f3 rfl rfl rfl rfl rfl rfl rfl ⟨rfl, rfl, rfl, rfl, rfl⟩ rfl rfl rfl rfl rfl (by kernel_rfl) Tryz.func3 (by kernel_rfl)
    (of_decide_eq_true (by kernel_rfl)) (by unfold Func.isWrapper; rw [if_neg (of_decide_eq_false (by kernel_rfl))]; exact ⟨rfl, rfl⟩)
    (fun os started H enc _ => fnExactLinkClasses_lifted os started H enc)
#print axioms fnExactLinkClasses_holds

end Go.Proofs.YtimiieckkdogeaaGreat
