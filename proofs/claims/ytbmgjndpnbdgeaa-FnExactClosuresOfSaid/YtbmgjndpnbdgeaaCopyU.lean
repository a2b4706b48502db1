/-
  Copies of trees: what copyNode, copyNodes and the reference's l15Copy hand back, in memory of its own. Conditions: none.
-/
import Derived.Deep.RegionLaw
import Derived.Deep.DrawnRows
import Derived.Test.YtbmgjndpnbdgeaaDeepA
import Derived.Test.YtbmgjndpnbdgeaaToU
import Derived.Test.YtbmgjndpnbdgeaaMkU
namespace Go.Proofs.Ytbmgjndpnbdgeaa
open Go.ChangeShapes Go.WideShapes Go.ChangeAt Go.RowKit Go.Deep Go.Joins
open Go.ChangeMaps (open_string shut_string)
set_option linter.unusedVariables false
set_option linter.unusedSimpArgs false
set_option maxRecDepth 100000

theorem step_append_rd {P : Program} (w : World) {ops : Array Oper} {o : Oper} {a : Act} {K : Act → World → Prop} {Q : Exit → Act → World → Prop} {E : Prop} (hgd : o.guard = none) (s x : Operand) (t : TypeId)
    (ho : o.op = .call { callee := .builtin .append, args := #[s, x], argTypes := #[t, t] })
    (base : Nat) (e : TypeId) (zs : Array Value) (size bytes : Nat) (ht : P.underlying t = some (.slice e)) (hinfo : (P.info? e).map (fun i => (i.zero.map Value.cells, i.size, i.bytes)) = some (some zs, size, bytes))
    (hzs : zs.size = size) (hsz : 0 < size)
    (v : Value) (n : Nat) (xs : List Value) (hs : a.eval s = v) (hown : w.ownsRow base e size v n xs)
    (B : Nat) (A : Option Addr) (m c : Nat) (news : List Value) (hx : a.eval x = .slice A m c) (hr : Rd w B size (.slice A m c) m news) (h1 : ∀ u ∈ news, u.oneCell' = true)
    (h63 : n + m ≤ maxLen) (hbytes : (n + m) * bytes ≤ 140737488355328) (hbase : base ≤ w.heap.size)
    (h : ∀ v' w', w'.ownsRow base e size v' (n + m) (xs ++ news) → w.grownBy w' v.ownBlock → (v'.ownBlock = v.ownBlock ∨ v'.ownBlock = some w.heap.size) → K (a.put o.dst v') w') :
    if Region.wanted o (yielded ops a.tmps) = true then Oper.wp P o a w K Q else E := by
  have hw : Region.wanted o (yielded ops a.tmps) = true := by simp [Region.wanted, hgd]
  rw [if_pos hw]
  exact wp_append_rd w s x t ho base e zs size bytes ht hinfo hzs hsz v n xs hs hown B A m c news hx hr h1 h63 hbytes hbase h
theorem size_al (w : World) (o : Obj) : (w.alloc o).heap.size = w.heap.size + 1 := by simp
theorem Blk.bgrown {w w' : World} {g : Nat} {t : TypeId} {cs : Array Value} {row : Option Nat} (h : Blk w g t cs) (hb : w.grownBy w' row) (hg : some g ≠ row) : Blk w' g t cs := (hb.block g h.lt hg).trans h
theorem Below.grownI {lo : Nat} {w w2 w' : World} {row : Option Nat} (h : Below lo w w2) (hb : w2.grownBy w' row) (hr : ∀ g, row = some g → lo ≤ g) (hl : lo ≤ w2.heap.size) : Below lo w w' :=
  h.trans ⟨hb.os, hb.tape, hb.output, hb.size, fun i hi => hb.block i (by omega) fun e => by have := hr i e.symm; omega⟩
theorem node_onecell {w : World} {F : List Nat} {us : List Value} (x : FNode) (h : OwnL w x.c F us) : ∀ u, u ∈ us → u.oneCell' = true := by
  obtain ⟨z0, z1, z2, z3⟩ := x
  rw [FNode.c_eq] at h
  refine OwnL.onecell _ _ _ h fun y hy u hu => ?_
  simp only [List.mem_cons, List.not_mem_nil, or_false] at hy
  rcases hy with rfl | rfl | rfl | rfl <;> (first | (injection hu with hu; subst hu; rfl) | cases hu)
/-- A function that copies a node. -/
def CpNode (f : FuncId) (x : FNode) : Prop := ∀ (us : List Value) (w : World) (B : Nat), B ≤ w.heap.size → RdVs w B x.c us → Calls Try.prog f #[.agg us.toArray] w fun e w' => ∃ us', e = .returned (.agg us'.toArray) ∧ OwnI w' w.heap.size w'.heap.size x.c us' ∧ Below w.heap.size w w'
def CpNodeS (l : List FNode) : Prop := ∀ (u : Value) (w : World) (B : Nat), B ≤ w.heap.size → RdC w B (.s 38 4 l.length (FNode.flat l)) u → Calls Try.prog 27 #[u] w fun e w' => ∃ A c, e = .returned (.slice A l.length c) ∧ OwnI w' w.heap.size w'.heap.size [.s 38 4 l.length (FNode.flat l)] [.slice A l.length c] ∧ Below w.heap.size w w'
set_option maxHeartbeats 1000000 in
theorem cpNode_of (z0 z1 : Int) (z2 : ByteArray) (z3 : List FNode) (h3 : CpNodeS z3) : CpNode 26 ⟨z0, z1, z2, z3⟩ := by
  intro us w B hB0 hr
  rw [FNode.c_eq] at hr ⊢
  obtain ⟨us0, rfl, hr_0⟩ := hr.unv
  obtain ⟨us1, rfl, hr_1⟩ := hr_0.unv
  obtain ⟨us2, rfl, hr_2⟩ := hr_1.unv
  obtain ⟨A3, c3, us3, rfl, r3, hr_3⟩ := hr_2.uns
  obtain rfl := hr_3.un0
  have R3 := Lib.hid r3
  have H3 := Lib.hid h3
  clear r3 h3 hr hr_0 hr_1 hr_2 hr_3
  go_enter Try.func26, Try.ntmps26
  go_wp2_with fail
  refine calls_worldD _ (fun X => Blk X (w.heap.size + 1) 38 #[.int .i64 0, .int .i64 0, .string ⟨#[]⟩, .slice none 0 0] ∧ Blk X (w.heap.size + 1 + 1) 38 #[.int .i64 z0, .int .i64 z1, .string z2, .slice A3 z3.length c3] ∧ Below w.heap.size w X) ⟨(Blk.new' (w.alloc _) _ _ _ (by simp)).alloc _, Blk.new' ((w.alloc _).alloc _) _ _ _ (by simp), (((Below.refl _ _).alloc (Nat.le_refl _) _).alloc (by simp) _).alloc (by simp; omega) _⟩ ?_
  rintro X0 ⟨br, bo, hB⟩
  have s0 := bo.lt
  refine (H3.out _ _ B (by omega) (R3.out.below hB hB0)).mono ?_
  rintro e Y0 ⟨D3, d3, rfl, own, hb⟩
  replace br := br.below hb (Nat.le_refl _)
  replace bo := bo.below hb (Nat.le_refl _)
  replace hB := hB.trans (hb.mono (by omega))
  have t0 : X0.heap.size ≤ Y0.heap.size := hb.size
  have br_0 : Y0.cell? ⟨w.heap.size + 1, 0, none⟩ = some (.int .i64 0) := br.cell 0
  have br_1 : Y0.cell? ⟨w.heap.size + 1, 1, none⟩ = some (.int .i64 0) := br.cell 1
  have br_2 : Y0.cell? ⟨w.heap.size + 1, 2, none⟩ = some (.string ⟨#[]⟩) := br.cell 2
  have br_3 : Y0.cell? ⟨w.heap.size + 1, 3, none⟩ = some (.slice none 0 0) := br.cell 3
  have br_l := br.lt
  have br_f := fun i => br.frozen i
  have bo_0 : Y0.cell? ⟨w.heap.size + 1 + 1, 0, none⟩ = some (.int .i64 z0) := bo.cell 0
  have bo_1 : Y0.cell? ⟨w.heap.size + 1 + 1, 1, none⟩ = some (.int .i64 z1) := bo.cell 1
  have bo_2 : Y0.cell? ⟨w.heap.size + 1 + 1, 2, none⟩ = some (.string z2) := bo.cell 2
  have bo_3 : Y0.cell? ⟨w.heap.size + 1 + 1, 3, none⟩ = some (.slice A3 z3.length c3) := bo.cell 3
  have bo_l := bo.lt
  have bo_f := fun i => bo.frozen i
  go_wp2_with fail
  refine bodyPost_ret (v := .agg #[.int .i64 z0, .int .i64 z1, .string z2, .slice D3 z3.length d3]) (by simp [results, Try.results26, go_sem, br_0, br_1, br_2, br_3, br_l, br_f, bo_0, bo_1, bo_2, bo_3, bo_l, bo_f]) rfl ⟨_, rfl, ?_, ?_⟩
  · refine OwnI.wide (lo := X0.heap.size) (hi := Y0.heap.size) ?_ (by omega) (by simp)
    repeat (refine OwnI.set ?_ (.inl (by simp; omega)) _)
    exact OwnI.consv (OwnI.consv (OwnI.consv own _) _) _
  · repeat (refine Below.setCell ?_ (by simp; try omega) _)
    exact hB
theorem infoNodeC : (Try.prog.info? 38).map (fun i => (i.zero.map Value.cells, i.size, i.bytes)) = some (some #[.int .i64 0, .int .i64 0, .string ByteArray.empty, .slice none 0 0], 4, 56) := by kernel_rfl
set_option maxHeartbeats 2000000 in
theorem cpNodeS_of (l : List FNode) (hl : l.length ≤ 1000000000) (he : ∀ x, x ∈ l → CpNode 26 x) : CpNodeS l := by
  intro u w B hB0 hr0
  have hr := hr0.up hB0
  clear hr0
  obtain ⟨A, c, rfl⟩ := hr.form
  have HC := Lib.hid hr
  have hn : l.length ≤ 9223372036854775807 := by omega
  have HE := Lib.hid he
  clear hr he
  go_enter Try.func27, Try.ntmps27
  go_wp2_with fail
  go_loopw [3, 8] (fun v i wr => ∃ (k : Nat) (A' : Option Addr) (c' : Nat), k ≤ l.length ∧ i = .int .i64 k ∧ v = .slice A' k c' ∧ OwnI wr w.heap.size wr.heap.size [.s 38 4 k (FNode.flat (l.take k))] [.slice A' k c'] ∧ Below w.heap.size w wr) (fun _ i _ => l.length - (intOf i).toNat)
  case atStart => exact ⟨0, none, 0, Nat.zero_le _, rfl, rfl, by simpa using OwnI.none w w.heap.size w.heap.size 38 4, Below.refl _ _⟩
  case round =>
    obtain ⟨k, A', c', hk, rfl, rfl, hown, hb⟩ := hrel
    have HOWN := Lib.hid hown
    have hbs := hb.size
    clear hown
    by_cases hlt : k < l.length
    · obtain ⟨x, hx⟩ : ∃ x, l[k]? = some x := ⟨_, List.getElem?_eq_getElem hlt⟩
      obtain ⟨bc, offc, rfl, hblc, hcc⟩ := RdC.at_ FNode.len HC.out hx
      have HX := Lib.hid hx
      have HP := Lib.hid (HE.out x (List.mem_of_getElem? hx))
      clear hx
      obtain ⟨z0, z1, z2, z3⟩ := x
      rw [FNode.c_eq] at hcc
      obtain ⟨u0, e0, q0⟩ := hcc 0 _ rfl
      obtain rfl := q0.val
      obtain ⟨u1, e1, q1⟩ := hcc 1 _ rfl
      obtain rfl := q1.val
      obtain ⟨u2, e2, q2⟩ := hcc 2 _ rfl
      obtain rfl := q2.val
      obtain ⟨u3, e3, q3⟩ := hcc 3 _ rfl
      obtain ⟨A3, c3, rfl⟩ := q3.form
      have Q3 := Lib.hid q3
      have k0 : wr.cell? ⟨bc, offc + k * 4, none⟩ = some (.int .i64 z0) := (hb.cell (p := ⟨bc, _, none⟩) hblc).trans (by simpa using e0)
      have k1 : wr.cell? ⟨bc, offc + k * 4 + 1, none⟩ = some (.int .i64 z1) := (hb.cell (p := ⟨bc, _, none⟩) hblc).trans (by simpa using e1)
      have k2 : wr.cell? ⟨bc, offc + k * 4 + 2, none⟩ = some (.string z2) := (hb.cell (p := ⟨bc, _, none⟩) hblc).trans (by simpa using e2)
      have k3 : wr.cell? ⟨bc, offc + k * 4 + 3, none⟩ = some (.slice A3 z3.length c3) := (hb.cell (p := ⟨bc, _, none⟩) hblc).trans (by simpa using e3)
      clear hcc e0 e1 e2 e3 q0 q1 q2 q3
      go_wp2_with fail
      refine calls_worldD _ (fun X => OwnI X w.heap.size wr.heap.size [.s 38 4 k (FNode.flat (l.take k))] [.slice A' k c'] ∧ Below w.heap.size w X ∧ wr.heap.size ≤ X.heap.size) ⟨HOWN.out.alloc _, hb.alloc hbs _, by simp⟩ ?_
      clear HOWN hb k0 k1 k2 k3
      rintro X0 ⟨hown, hb, hs0⟩
      refine (HP.out [.int .i64 z0, .int .i64 z1, .string z2, .slice A3 z3.length c3] _ w.heap.size (by omega) (by rw [FNode.c_eq]; exact RdVs.cons (by unfold RdC; rfl) (RdVs.cons (by unfold RdC; rfl) (RdVs.cons (by unfold RdC; rfl) (RdVs.cons (Q3.out.below hb (Nat.le_refl _)) (RdVs.nil _ _)))))).mono ?_
      rw [FNode.c_eq]
      rintro e w2 ⟨us2, rfl, own2, hb2⟩
      have hv := own2.vs
      obtain ⟨us2_0, rfl, hv_0⟩ := hv.unv
      obtain ⟨us2_1, rfl, hv_1⟩ := hv_0.unv
      obtain ⟨us2_2, rfl, hv_2⟩ := hv_1.unv
      obtain ⟨D3, d3, us2_3, rfl, _, hv_3⟩ := hv_2.uns
      obtain rfl := hv_3.un0
      clear hv hv_0 hv_1 hv_2 hv_3
      have hN : FNode.c ⟨z0, z1, z2, z3⟩ = _ := FNode.c_eq z0 z1 z2 z3
      rw [← hN] at own2
      have hs2 : X0.heap.size ≤ w2.heap.size := hb2.size
      have hb3 := hb.trans (hb2.mono (by omega))
      obtain ⟨us, G, ho, hol, hG, hGb, hGv⟩ := (hown.below hb2 (Nat.le_refl _)).row
      obtain ⟨G2, g1, g2, g3⟩ := own2
      have HO := Lib.hid (World.ownsRow.alloc ho (.cells #[.int .i64 z0, .int .i64 z1, .string z2, .slice D3 z3.length d3] 38))
      have HN := Lib.hid (rd_new w2 38 4 [.int .i64 z0, .int .i64 z1, .string z2, .slice D3 z3.length d3] rfl)
      have H1 := Lib.hid (node_onecell _ g1)
      have hbw : w.heap.size ≤ w2.heap.size := by omega
      have HG1 := Lib.hid (OwnL.keep _ _ _ hol (w' := w2.alloc (.cells #[.int .i64 z0, .int .i64 z1, .string z2, .slice D3 z3.length d3] 38)) fun g hg => Below.heap_alloc w2 _ g (OwnL.lt _ _ _ hol g hg))
      have HG2 := Lib.hid (OwnL.keep _ _ _ g1 (w' := w2.alloc (.cells #[.int .i64 z0, .int .i64 z1, .string z2, .slice D3 z3.length d3] 38)) fun g hg => Below.heap_alloc w2 _ g (OwnL.lt _ _ _ g1 g hg))
      have HV := Lib.hid hGv
      have HB := Lib.hid hGb
      have HB2 := Lib.hid g3
      have HD1 := Lib.hid hG
      have HD2 := Lib.hid g2
      clear ho hol g1 hGv hGb g3 hG g2 hown hb2 hN
      go_wp2_with (at_builtin; refine wpList_append_rd _ rfl _ _ _ rfl w.heap.size _ _ _ 56 Try.underlying26 infoNodeC rfl (by omega) (.slice A' k c') k us rfl HO.out (w2.heap.size + 1) _ 1 1 [.int .i64 z0, .int .i64 z1, .string z2, .slice D3 z3.length d3] rfl HN.out H1.out (by unfold maxLen; omega) (by omega) (by simp; omega) ?_; intro v1 w1 hown1 hg1 hat1)
      obtain ⟨A4, c4, rfl⟩ := own_form hown1
      go_roundw
      case rel =>
        have hp := OwnI.pushed hown1 hg1 hat1 HG1.out HG2.out HD1.out HD2.out (fun b hb1 hb2 => by have := HB.out b hb1; have := HB2.out b hb2; omega) (fun b hb1 => (HB.out b hb1).1) (fun b hb1 => by have := HB2.out b hb1; omega) (fun g hg => ⟨(HV.out g hg).1, fun h2 => by have := (HV.out g hg).2; have := HB2.out g h2; omega⟩)
        refine ⟨k + 1, A4, c4, by omega, by go_num, rfl, ?_, Below.grownI (hb3.alloc hbw _) hg1 (fun g hg => (HV.out g hg).2.1) (by simp; omega)⟩
        rw [FNode.flat_take l k _ HX.out]
        exact hp
      case measure => simp [intOf]; omega
    · obtain rfl : k = l.length := by omega
      clear hlt
      go_wp2_with fail
      go_ret
      have ho := HOWN.out
      rw [List.take_length] at ho
      exact ⟨_, _, rfl, ho, hb⟩
mutual
theorem cpNode_any : ∀ (x : FNode), x.wt ≤ 1000000000 → CpNode 26 x
  | .mk a0 a1 a2 a3, hw => by
    unfold FNode.wt at hw
    exact cpNode_of a0 a1 a2 a3 (cpNodeS_of a3 (by omega) (cpNode_all a3 (by omega)))
theorem cpNode_all : ∀ (l : List FNode), l.length + FNode.wts l ≤ 1000000000 → ∀ x, x ∈ l → CpNode 26 x
  | [], _, x, hx => by cases hx
  | y :: r, hw, x, hx => by
    unfold FNode.wts at hw
    simp only [List.length_cons] at hw
    rcases List.mem_cons.1 hx with e | hx
    · rw [e]
      exact cpNode_any y (by omega)
    · exact cpNode_all r (by omega) x hx
end

set_option maxHeartbeats 2000000 in
theorem cpSpec_of (z0 z1 : Int) (z2 : ByteArray) (l : List FNode) (hl : l.length ≤ 1000000000) (he : ∀ x, x ∈ l → CpNode 25 x) : CpNode 25 ⟨z0, z1, z2, l⟩ := by
  intro us w B hB0 hr
  rw [FNode.c_eq] at hr ⊢
  obtain ⟨us0, rfl, hr_0⟩ := hr.unv
  obtain ⟨us1, rfl, hr_1⟩ := hr_0.unv
  obtain ⟨us2, rfl, hr_2⟩ := hr_1.unv
  obtain ⟨A, c, us3, rfl, r3, hr_3⟩ := hr_2.uns
  obtain rfl := hr_3.un0
  have HC := Lib.hid (r3.up hB0)
  have HE := Lib.hid he
  have hn : l.length ≤ 9223372036854775807 := by omega
  clear r3 he hr hr_0 hr_1 hr_2 hr_3
  go_enter Try.func25, Try.ntmps25
  go_wp2_with fail
  go_loopw [4] (fun i wr => ∃ (k : Nat) (A' : Option Addr) (c' : Nat), k ≤ l.length ∧ i = .int .i64 k ∧ Blk wr w.heap.size 38 #[.int .i64 z0, .int .i64 z1, .string z2, .slice A l.length c] ∧ Blk wr (w.heap.size + 1) 38 #[.int .i64 0, .int .i64 0, .string ⟨#[]⟩, .slice none 0 0] ∧ Blk wr (w.heap.size + 1 + 1) 38 #[.int .i64 z0, .int .i64 z1, .string z2, .slice A' k c'] ∧ OwnI wr (w.heap.size + 3) wr.heap.size [.s 38 4 k (FNode.flat (l.take k))] [.slice A' k c'] ∧ Below w.heap.size w wr) (fun i _ => l.length - (intOf i).toNat)
  case atStart => exact ⟨0, none, 0, Nat.zero_le _, rfl, ((Blk.new w _ _).alloc _).alloc _, (Blk.new' (w.alloc _) _ _ _ (by simp)).alloc _, Blk.new' ((w.alloc _).alloc _) _ _ _ (by simp), by simpa using OwnI.none _ _ _ 38 4, (((Below.refl _ _).alloc (Nat.le_refl _) _).alloc (by simp) _).alloc (by simp; omega) _⟩
  case round =>
    obtain ⟨k, A', c', hk, rfl, ba, br, bo, hown, hb⟩ := hrel
    have HOWN := Lib.hid hown
    have hbs := hb.size
    have bol := bo.lt
    clear hown
    have ba_3 : wr.cell? ⟨w.heap.size, 3, none⟩ = some (.slice A l.length c) := ba.cell 3
    have bo_0 : wr.cell? ⟨w.heap.size + 1 + 1, 0, none⟩ = some (.int .i64 z0) := bo.cell 0
    have bo_1 : wr.cell? ⟨w.heap.size + 1 + 1, 1, none⟩ = some (.int .i64 z1) := bo.cell 1
    have bo_2 : wr.cell? ⟨w.heap.size + 1 + 1, 2, none⟩ = some (.string z2) := bo.cell 2
    have bo_3 : wr.cell? ⟨w.heap.size + 1 + 1, 3, none⟩ = some (.slice A' k c') := bo.cell 3
    have bo_f := fun i => bo.frozen i
    have br_0 : wr.cell? ⟨w.heap.size + 1, 0, none⟩ = some (.int .i64 0) := br.cell 0
    have br_1 : wr.cell? ⟨w.heap.size + 1, 1, none⟩ = some (.int .i64 0) := br.cell 1
    have br_2 : wr.cell? ⟨w.heap.size + 1, 2, none⟩ = some (.string ⟨#[]⟩) := br.cell 2
    have br_3 : wr.cell? ⟨w.heap.size + 1, 3, none⟩ = some (.slice none 0 0) := br.cell 3
    have br_f := fun i => br.frozen i
    have br_l := br.lt
    by_cases hlt : k < l.length
    · obtain ⟨x, hx⟩ : ∃ x, l[k]? = some x := ⟨_, List.getElem?_eq_getElem hlt⟩
      obtain ⟨bc, offc, rfl, hblc, hcc⟩ := RdC.at_ FNode.len HC.out hx
      have HX := Lib.hid hx
      have HP := Lib.hid (HE.out x (List.mem_of_getElem? hx))
      clear hx
      obtain ⟨y0, y1, y2, y3⟩ := x
      rw [FNode.c_eq] at hcc
      obtain ⟨u0, e0, q0⟩ := hcc 0 _ rfl
      obtain rfl := q0.val
      obtain ⟨u1, e1, q1⟩ := hcc 1 _ rfl
      obtain rfl := q1.val
      obtain ⟨u2, e2, q2⟩ := hcc 2 _ rfl
      obtain rfl := q2.val
      obtain ⟨u3, e3, q3⟩ := hcc 3 _ rfl
      obtain ⟨A3, c3, rfl⟩ := q3.form
      have Q3 := Lib.hid q3
      have k0 : wr.cell? ⟨bc, offc + k * 4, none⟩ = some (.int .i64 y0) := (hb.cell (p := ⟨bc, _, none⟩) hblc).trans (by simpa using e0)
      have k1 : wr.cell? ⟨bc, offc + k * 4 + 1, none⟩ = some (.int .i64 y1) := (hb.cell (p := ⟨bc, _, none⟩) hblc).trans (by simpa using e1)
      have k2 : wr.cell? ⟨bc, offc + k * 4 + 2, none⟩ = some (.string y2) := (hb.cell (p := ⟨bc, _, none⟩) hblc).trans (by simpa using e2)
      have k3 : wr.cell? ⟨bc, offc + k * 4 + 3, none⟩ = some (.slice A3 y3.length c3) := (hb.cell (p := ⟨bc, _, none⟩) hblc).trans (by simpa using e3)
      have hk0 : (0 : Int) ≤ (k : Int) := by omega
      have hkl : (k : Int) < (l.length : Int) := by omega
      have hbcl : bc < wr.heap.size := by omega
      clear hcc e0 e1 e2 e3 q0 q1 q2 q3
      go_wp2_with fail
      have HV0 := Lib.hid (show RdVs wr.drew w.heap.size (FNode.c ⟨y0, y1, y2, y3⟩) [.int .i64 y0, .int .i64 y1, .string y2, .slice A3 y3.length c3] from by rw [FNode.c_eq]; exact RdVs.cons (by unfold RdC; rfl) (RdVs.cons (by unfold RdC; rfl) (RdVs.cons (by unfold RdC; rfl) (RdVs.cons (Q3.out.below hb.drew (Nat.le_refl _)) (RdVs.nil _ _)))))
      have tw : w.heap.size ≤ wr.drew.heap.size := hbs
      have hNc : FNode.c ⟨y0, y1, y2, y3⟩ = _ := FNode.c_eq y0 y1 y2 y3
      have HNc := Lib.hid hNc
      clear hNc
      have hp4 : 0 < 4 := by omega
      have hgs : ∀ (W : World) (o : Obj) (x : Nat), x < W.heap.size → x < (W.alloc o).heap.size := fun W o x h => by rw [size_al]; omega
      have hgl : ∀ (W : World) (o : Obj) (x : Nat), x ≤ W.heap.size → x ≤ (W.alloc o).heap.size := fun W o x h => by rw [size_al]; omega
      have hgt : ∀ (W W1 : World) (o : Obj) (p : Addr) (v : Value), wr.heap.size ≤ W.heap.size → (W.alloc o).heap.size ≤ W1.heap.size → ¬ ((W1.setCell p v).heap.size < wr.heap.size + 1) := fun W W1 o p v h1 h2 => by rw [size_al] at h2; simp; omega
      have na0 : (⟨w.heap.size, 3, none⟩ : Addr) ≠ ⟨w.heap.size + 1 + 1, 3, none⟩ := fun e => by injection e; omega
      have na2 : (⟨bc, offc + k * 4, none⟩ : Addr) ≠ ⟨w.heap.size + 1 + 1, 3, none⟩ := fun e => by injection e; omega
      have na3 : (⟨bc, offc + k * 4 + 1, none⟩ : Addr) ≠ ⟨w.heap.size + 1 + 1, 3, none⟩ := fun e => by injection e; omega
      have na4 : (⟨bc, offc + k * 4 + 2, none⟩ : Addr) ≠ ⟨w.heap.size + 1 + 1, 3, none⟩ := fun e => by injection e; omega
      have na5 : (⟨bc, offc + k * 4 + 3, none⟩ : Addr) ≠ ⟨w.heap.size + 1 + 1, 3, none⟩ := fun e => by injection e; omega
      have hmx : k + 1 ≤ maxLen := by unfold maxLen; omega
      have hmb : (k + 1) * 56 ≤ 140737488355328 := by omega
      have hn1 : ¬ (w.heap.size + 3 ≤ w.heap.size) := by omega
      have hn2 : ¬ (w.heap.size + 3 ≤ w.heap.size + 1 + 1) := by omega
      have hn3 : ¬ (w.heap.size + 3 ≤ bc) := by omega
      have hbl3 : w.heap.size + 3 ≤ wr.heap.size := by omega
      have hal_ : w.heap.size < wr.heap.size := by omega
      go_region_law
        ((first
          | (go_simp
             go_at_call 25
             refine (HP.out _ _ w.heap.size tw HV0.out).mono ?_
             rw [FNode.c_eq]
             rintro e w2 ⟨us2, rfl, own2, hb2⟩
             have hv := own2.vs
             obtain ⟨us2_0, rfl, hv_0⟩ := hv.unv
             obtain ⟨us2_1, rfl, hv_1⟩ := hv_0.unv
             obtain ⟨us2_2, rfl, hv_2⟩ := hv_1.unv
             obtain ⟨D3, d3, us2_3, rfl, _, hv_3⟩ := hv_2.uns
             obtain rfl := hv_3.un0
             clear hv hv_0 hv_1 hv_2 hv_3
             have OWN2 := Lib.hid own2
             have BEL2 := Lib.hid hb2
             have m_0 := (hb2.cell (p := ⟨w.heap.size, 3, none⟩) ba.lt).trans ba_3
             have m_1 := (hb2.cell (p := ⟨w.heap.size + 1 + 1, 3, none⟩) bol).trans bo_3
             have m_2 := (hb2.cell (p := ⟨bc, offc + k * 4, none⟩) hbcl).trans k0
             have m_3 := (hb2.cell (p := ⟨bc, offc + k * 4 + 1, none⟩) hbcl).trans k1
             have m_4 := (hb2.cell (p := ⟨bc, offc + k * 4 + 2, none⟩) hbcl).trans k2
             have m_5 := (hb2.cell (p := ⟨bc, offc + k * 4 + 3, none⟩) hbcl).trans k3
             obtain ⟨us, G, ho, hol, hG, hGb, hGv⟩ := (HOWN.out.drew.below hb2 (Nat.le_refl _)).row
             rw [← HNc.out] at own2
             obtain ⟨G2, g1, g2, g3⟩ := own2
             have hs2 : wr.heap.size ≤ w2.heap.size := hb2.size
             have HO := Lib.hid (World.ownsRow.alloc ho (.cells #[.int .i64 y0, .int .i64 y1, .string y2, .slice D3 y3.length d3] 38))
             have HN := Lib.hid (rd_new w2 38 4 [.int .i64 y0, .int .i64 y1, .string y2, .slice D3 y3.length d3] rfl)
             have H1 := Lib.hid (node_onecell _ g1)
             have HG1 := Lib.hid (OwnL.keep _ _ _ hol (w' := (w2.alloc (.cells #[.int .i64 y0, .int .i64 y1, .string y2, .slice D3 y3.length d3] 38))) fun g hg => Below.heap_alloc w2 _ g (OwnL.lt _ _ _ hol g hg))
             have HG2 := Lib.hid (OwnL.keep _ _ _ g1 (w' := (w2.alloc (.cells #[.int .i64 y0, .int .i64 y1, .string y2, .slice D3 y3.length d3] 38))) fun g hg => Below.heap_alloc w2 _ g (OwnL.lt _ _ _ g1 g hg))
             have HV := Lib.hid hGv
             have HB := Lib.hid hGb
             have HB2 := Lib.hid g3
             have HD1 := Lib.hid hG
             have HD2 := Lib.hid g2
             have BO2 := Lib.hid ((bo.drew.below hb2 (Nat.le_refl _)).alloc (.cells #[.int .i64 y0, .int .i64 y1, .string y2, .slice D3 y3.length d3] 38))
             have hbse := hgl _ (.cells #[.int .i64 y0, .int .i64 y1, .string y2, .slice D3 y3.length d3] 38) _ (Nat.le_trans hbl3 hs2)
             have hlA := Nat.lt_of_lt_of_le hal_ hs2
             have hlO := Nat.lt_of_lt_of_le bol hs2
             have hlE := Nat.lt_of_lt_of_le hbcl hs2
             have hneA : some w.heap.size ≠ (Value.slice A' k c').ownBlock := fun e => hn1 (hGv _ e.symm).2.1
             have hneO : some (w.heap.size + 1 + 1) ≠ (Value.slice A' k c').ownBlock := fun e => hn2 (hGv _ e.symm).2.1
             have hneE : some bc ≠ (Value.slice A' k c').ownBlock := fun e => hn3 (hGv _ e.symm).2.1
             have n_0 := (World.cell?_alloc_lt w2 (.cells #[.int .i64 y0, .int .i64 y1, .string y2, .slice D3 y3.length d3] 38) ⟨w.heap.size, 3, none⟩ hlA).trans m_0
             have n_1 := (World.cell?_alloc_lt w2 (.cells #[.int .i64 y0, .int .i64 y1, .string y2, .slice D3 y3.length d3] 38) ⟨w.heap.size + 1 + 1, 3, none⟩ hlO).trans m_1
             have n_2 := (World.cell?_alloc_lt w2 (.cells #[.int .i64 y0, .int .i64 y1, .string y2, .slice D3 y3.length d3] 38) ⟨bc, offc + k * 4, none⟩ hlE).trans m_2
             have n_3 := (World.cell?_alloc_lt w2 (.cells #[.int .i64 y0, .int .i64 y1, .string y2, .slice D3 y3.length d3] 38) ⟨bc, offc + k * 4 + 1, none⟩ hlE).trans m_3
             have n_4 := (World.cell?_alloc_lt w2 (.cells #[.int .i64 y0, .int .i64 y1, .string y2, .slice D3 y3.length d3] 38) ⟨bc, offc + k * 4 + 2, none⟩ hlE).trans m_4
             have n_5 := (World.cell?_alloc_lt w2 (.cells #[.int .i64 y0, .int .i64 y1, .string y2, .slice D3 y3.length d3] 38) ⟨bc, offc + k * 4 + 3, none⟩ hlE).trans m_5
             clear ho hol g1 hGv hGb g3 hG g2 hb2)
          | (refine step_append_rd _ (by rfl) _ _ _ (by rfl) (w.heap.size + 3) _ _ _ 56 Try.underlying26 infoNodeC rfl hp4 (.slice A' k c') k us (by rfl) HO.out (w2.heap.size + 1) _ 1 1 [.int .i64 y0, .int .i64 y1, .string y2, .slice D3 y3.length d3] (by rfl) HN.out H1.out hmx hmb hbse ?_
             intro v1 w1 hown1 hg1 hat1
             obtain ⟨A4, c4, rfl⟩ := own_form hown1
             have fo1 := fun i => (Blk.bgrown BO2.out hg1 hneO).frozen i
             have lo1 := (Blk.bgrown BO2.out hg1 hneO).lt
             have p_1 : w1.cell? ⟨w.heap.size + 1 + 1, 3, none⟩ = some (.slice A' k c') := (Blk.bgrown BO2.out hg1 hneO).cell 3)))
      all_goals
        have hd2 : Below wr.heap.size wr w2 := (Below.refl wr.heap.size wr).drew.trans BEL2.out
        have hb3 := hb.trans (hd2.mono hbs)
        have hbw : w.heap.size ≤ w2.heap.size := by omega
        have ga := Blk.bgrown (((ba.below hd2 (Nat.le_refl _))).alloc (.cells #[.int .i64 y0, .int .i64 y1, .string y2, .slice D3 y3.length d3] 38)) hg1 hneA
        have gr := Blk.bgrown (((br.below hd2 (Nat.le_refl _))).alloc (.cells #[.int .i64 y0, .int .i64 y1, .string y2, .slice D3 y3.length d3] 38)) hg1 (fun e => by have := (HV.out _ e.symm).2.1; omega)
        have go := Blk.bgrown (((bo.below hd2 (Nat.le_refl _))).alloc (.cells #[.int .i64 y0, .int .i64 y1, .string y2, .slice D3 y3.length d3] 38)) hg1 hneO
        have hp := OwnI.pushed hown1 hg1 hat1 HG1.out HG2.out HD1.out HD2.out (fun b hb1 hb2 => by have := HB.out b hb1; have := HB2.out b hb2; have e : wr.drew.heap.size = wr.heap.size := rfl; omega) (fun b hb1 => (HB.out b hb1).1) (fun b hb1 => by have := HB2.out b hb1; have e : wr.drew.heap.size = wr.heap.size := rfl; omega) (fun g hg => ⟨(HV.out g hg).1, fun h2 => by have := (HV.out g hg).2; have := HB2.out g h2; have e : wr.drew.heap.size = wr.heap.size := rfl; omega⟩)
        rw [← FNode.flat_take l k _ HX.out] at hp
        have hbl := Below.grownI (hb3.alloc hbw (.cells #[.int .i64 y0, .int .i64 y1, .string y2, .slice D3 y3.length d3] 38)) hg1 (fun g hg => by have := (HV.out g hg).2.1; omega) (by rw [size_al]; omega)
        have HGA := Lib.hid ga
        have HGR := Lib.hid gr
        have HGO := Lib.hid go
        have HHP := Lib.hid hp
        have hol_ := go.lt
        have gof := fun i => go.frozen i
        have go_3 : w1.cell? ⟨w.heap.size + 1 + 1, 3, none⟩ = some (.slice A' k c') := go.cell 3
        clear ga gr go hp p_1 n_0 n_1 n_2 n_3 n_4 n_5 m_0 m_1 m_2 m_3 m_4 m_5 hneA hneO hneE
        go_wp2_with fail
        go_roundw
        case rel =>
          refine ⟨k + 1, A4, c4, by omega, by go_num, HGA.out.far (by simp; try omega) _, HGR.out.far (by simp; try omega) _, by simpa using HGO.out.set_ 3 (.slice A4 (k + 1) c4), ?_, hbl.setCell (by simp; try omega) _⟩
          exact (HHP.out.set (.inl (by simp)) _).wide (Nat.le_refl _) (by simp)
        case measure => simp [intOf]; omega
    · obtain rfl : k = l.length := by omega
      clear hlt
      go_wp2_with fail
      refine bodyPost_ret (v := .agg #[.int .i64 z0, .int .i64 z1, .string z2, .slice A' l.length c']) (by simp [results, Try.results25, go_sem, br_0, br_1, br_2, br_3, br_l, br_f, bo_0, bo_1, bo_2, bo_3, bol, bo_f]) rfl ⟨_, rfl, ?_, ?_⟩
      · have ho := HOWN.out
        rw [List.take_length] at ho
        refine OwnI.wide (lo := w.heap.size + 3) (hi := wr.heap.size) ?_ (by omega) (by simp)
        repeat (refine OwnI.set ?_ (.inl (by simp; try omega)) _)
        exact OwnI.consv (OwnI.consv (OwnI.consv ho _) _) _
      · repeat (refine Below.setCell ?_ (by simp; try omega) _)
        exact hb
mutual
theorem cpSpec_any : ∀ (x : FNode), x.wt ≤ 1000000000 → CpNode 25 x
  | .mk a0 a1 a2 a3, hw => by
    unfold FNode.wt at hw
    exact cpSpec_of a0 a1 a2 a3 (by omega) (cpSpec_all a3 (by omega))
theorem cpSpec_all : ∀ (l : List FNode), l.length + FNode.wts l ≤ 1000000000 → ∀ x, x ∈ l → CpNode 25 x
  | [], _, x, hx => by cases hx
  | y :: r, hw, x, hx => by
    unfold FNode.wts at hw
    simp only [List.length_cons] at hw
    rcases List.mem_cons.1 hx with e | hx
    · rw [e]
      exact cpSpec_any y (by omega)
    · exact cpSpec_all r (by omega) x hx
end
end Go.Proofs.Ytbmgjndpnbdgeaa
