/-
  Parts of the proof: ToU, MkU, CopyU, ClP, SdG, SdA, SdF. Conditions: none.
-/
import Derived.Test.YtgejkfcemlkclaaPGBaseNd
import Derived.Deep.RegionLaw
import Derived.Deep.DrawnRows
import Derived.Test.YtgejkfcemlkclaaPGSdNSdT
import Derived.Test.YtgejkfcemlkclaaPGRegRegL
set_option linter.unusedVariables false
set_option linter.unusedSimpArgs false
namespace Go.Proofs.Ytgejkfcemlkclaa
open Go.ChangeShapes Go.WideShapes Go.ChangeAt Go.RowKit Go.Deep Go.Joins
open Go.ChangeMaps (open_string shut_string)
set_option maxRecDepth 100000

end Go.Proofs.Ytgejkfcemlkclaa
namespace Go.Proofs.Ytgejkfcemlkclaa
open Go.ChangeShapes Go.WideShapes Go.ChangeAt Go.RowKit Go.Deep Go.Joins
open Go.ChangeMaps (open_string shut_string)
set_option maxRecDepth 100000
theorem FStr.flat_len (l : List FStr) : (FStr.flat l).length = l.length * 1 := by
  induction l with
  | nil => simp
  | cons x r ih =>
    have e : FStr.flat (x :: r) = x.c ++ FStr.flat r := List.flatMap_cons
    rw [e, List.length_append, ih, FStr.len, List.length_cons]
    omega
theorem FStr.flat_take (l : List FStr) (k : Nat) (x : FStr) (h : l[k]? = some x) : FStr.flat (l.take (k + 1)) = FStr.flat (l.take k) ++ x.c := by
  rw [List.take_add_one, h]
  simp [FStr.flat]
theorem FNode.flat_len (l : List FNode) : (FNode.flat l).length = l.length * 4 := by
  induction l with
  | nil => simp
  | cons x r ih =>
    have e : FNode.flat (x :: r) = x.c ++ FNode.flat r := List.flatMap_cons
    rw [e, List.length_append, ih, FNode.len, List.length_cons]
    omega
theorem FNode.flat_take (l : List FNode) (k : Nat) (x : FNode) (h : l[k]? = some x) : FNode.flat (l.take (k + 1)) = FNode.flat (l.take k) ++ x.c := by
  rw [List.take_add_one, h]
  simp [FNode.flat]
theorem FUnit.flat_len (l : List FUnit) : (FUnit.flat l).length = l.length * 5 := by
  induction l with
  | nil => simp
  | cons x r ih =>
    have e : FUnit.flat (x :: r) = x.c ++ FUnit.flat r := List.flatMap_cons
    rw [e, List.length_append, ih, FUnit.len, List.length_cons]
    omega
theorem FUnit.flat_take (l : List FUnit) (k : Nat) (x : FUnit) (h : l[k]? = some x) : FUnit.flat (l.take (k + 1)) = FUnit.flat (l.take k) ++ x.c := by
  rw [List.take_add_one, h]
  simp [FUnit.flat]
end Go.Proofs.Ytgejkfcemlkclaa
namespace Go.Proofs.Ytgejkfcemlkclaa
set_option maxHeartbeats 40000000
open Lib (hid)
open Go.ChangeShapes Go.WideShapes Go.ChangeAt Go.RowKit Go.Deep Go.Joins
open Go.ChangeMaps (open_string shut_string)
set_option maxRecDepth 100000

theorem size_al (w : World) (o : Obj) : (w.alloc o).heap.size = w.heap.size + 1 := by simp
theorem Blk.bgrown {w w' : World} {g : Nat} {t : TypeId} {cs : Array Value} {row : Option Nat} (h : Blk w g t cs) (hb : w.grownBy w' row) (hg : some g ≠ row) : Blk w' g t cs := (hb.block g h.lt hg).trans h
theorem Below.grownI {lo : Nat} {w w2 w' : World} {row : Option Nat} (h : Below lo w w2) (hb : w2.grownBy w' row) (hr : ∀ g, row = some g → lo ≤ g) (hl : lo ≤ w2.heap.size) : Below lo w w' :=
  h.trans ⟨hb.os, hb.tape, hb.output, hb.size, fun i hi => hb.block i (by omega) fun e => by have := hr i e.symm; omega⟩
theorem node_onecell {w : World} {F : List Nat} {us : List Value} (x : FNode) (h : OwnL w x.c F us) : ∀ u, u ∈ us → u.oneCell' = true := by
  obtain ⟨z0, z1, z2, z3⟩ := x
  rw [FNode.c_eq] at h
  refine OwnL.onecell _ _ _ h fun y hy u hu => ?_
  simp only [List.mem_cons, List.not_mem_nil, or_false] at hy
  rcases hy with rfl | rfl | rfl | rfl <;> (first | (injection hu with hu; subst hu; rfl) | cases hu)
/-- A function that copies a node. -/
def CpNode (f : FuncId) (x : FNode) : Prop := ∀ (us : List Value) (w : World) (B : Nat), B ≤ w.heap.size → RdVs w B x.c us → Calls Try.prog f #[.agg us.toArray] w fun e w' => ∃ us', e = .returned (.agg us'.toArray) ∧ OwnI w' w.heap.size w'.heap.size x.c us' ∧ Below w.heap.size w w'
def CpNodeS (l : List FNode) : Prop := ∀ (u : Value) (w : World) (B : Nat), B ≤ w.heap.size → RdC w B (.s 29 4 l.length (FNode.flat l)) u → Calls Try.prog 49 #[u] w fun e w' => ∃ A c, e = .returned (.slice A l.length c) ∧ OwnI w' w.heap.size w'.heap.size [.s 29 4 l.length (FNode.flat l)] [.slice A l.length c] ∧ Below w.heap.size w w'
theorem cpNode_of (z0 z1 : Int) (z2 : ByteArray) (z3 : List FNode) (h3 : CpNodeS z3) : CpNode 31 ⟨z0, z1, z2, z3⟩ := by
  intro us w B hB0 hr
  rw [FNode.c_eq] at hr ⊢
  obtain ⟨us0, rfl, hr_0⟩ := hr.unv
  obtain ⟨us1, rfl, hr_1⟩ := hr_0.unv
  obtain ⟨us2, rfl, hr_2⟩ := hr_1.unv
  obtain ⟨A3, c3, us3, rfl, r3, hr_3⟩ := hr_2.uns
  obtain rfl := hr_3.un0
  have R3 := hid r3
  have H3 := hid h3
  clear r3 h3 hr hr_0 hr_1 hr_2 hr_3
  go_enter Try.func31, Try.ntmps31
  go_wp2_with fail
  refine calls_worldD _ (fun X => Blk X (w.heap.size + 1) 29 #[.int .i64 0, .int .i64 0, .string ⟨#[]⟩, .slice none 0 0] ∧ Blk X (w.heap.size + 1 + 1) 29 #[.int .i64 z0, .int .i64 z1, .string z2, .slice A3 z3.length c3] ∧ Below w.heap.size w X) ⟨(Blk.new' (w.alloc _) _ _ _ (by simp)).alloc _, Blk.new' ((w.alloc _).alloc _) _ _ _ (by simp), (((Below.refl _ _).alloc (Nat.le_refl _) _).alloc (by simp) _).alloc (by simp; omega) _⟩ ?_
  rintro X0 ⟨br, bo, hB⟩
  have s0 := bo.lt
  refine (H3.out _ _ B (by omega) (R3.out.below hB hB0)).mono ?_
  rintro e Y0 ⟨D3, d3, rfl, own, hb⟩
  replace br := br.below hb (Nat.le_refl _)
  replace bo := bo.below hb (Nat.le_refl _)
  replace hB := hB.trans (hb.mono (by omega))
  have t0 : X0.heap.size ≤ Y0.heap.size := hb.size
  have br_0 : Y0.cell? ⟨w.heap.size + 1, 0, none⟩ = some (.int .i64 0) := br.cell 0
  have br_1 : Y0.cell? ⟨w.heap.size + 1, 1, none⟩ = some (.int .i64 0) := br.cell 1
  have br_2 : Y0.cell? ⟨w.heap.size + 1, 2, none⟩ = some (.string ⟨#[]⟩) := br.cell 2
  have br_3 : Y0.cell? ⟨w.heap.size + 1, 3, none⟩ = some (.slice none 0 0) := br.cell 3
  have br_l := br.lt
  have br_f := fun i => br.frozen i
  have bo_0 : Y0.cell? ⟨w.heap.size + 1 + 1, 0, none⟩ = some (.int .i64 z0) := bo.cell 0
  have bo_1 : Y0.cell? ⟨w.heap.size + 1 + 1, 1, none⟩ = some (.int .i64 z1) := bo.cell 1
  have bo_2 : Y0.cell? ⟨w.heap.size + 1 + 1, 2, none⟩ = some (.string z2) := bo.cell 2
  have bo_3 : Y0.cell? ⟨w.heap.size + 1 + 1, 3, none⟩ = some (.slice A3 z3.length c3) := bo.cell 3
  have bo_l := bo.lt
  have bo_f := fun i => bo.frozen i
  go_wp2_with fail
  refine bodyPost_ret (v := .agg #[.int .i64 z0, .int .i64 z1, .string z2, .slice D3 z3.length d3]) (by simp [results, Try.results31, go_sem, br_0, br_1, br_2, br_3, br_l, br_f, bo_0, bo_1, bo_2, bo_3, bo_l, bo_f]) rfl ⟨_, rfl, ?_, ?_⟩
  · refine OwnI.wide (lo := X0.heap.size) (hi := Y0.heap.size) ?_ (by omega) (by simp)
    repeat (refine OwnI.set ?_ (.inl (by simp; omega)) _)
    exact OwnI.consv (OwnI.consv (OwnI.consv own _) _) _
  · repeat (refine Below.setCell ?_ (by simp; try omega) _)
    exact hB
theorem infoNodeC : (Try.prog.info? 29).map (fun i => (i.zero.map Value.cells, i.size, i.bytes)) = some (some #[.int .i64 0, .int .i64 0, .string ByteArray.empty, .slice none 0 0], 4, 56) := by kernel_rfl
theorem cpNodeS_of (l : List FNode) (hl : l.length ≤ 1000000000) (he : ∀ x, x ∈ l → CpNode 31 x) : CpNodeS l := by
  intro u w B hB0 hr0
  have hr := hr0.up hB0
  clear hr0
  obtain ⟨A, c, rfl⟩ := hr.form
  have HC := hid hr
  have hn : l.length ≤ 9223372036854775807 := by omega
  have HE := hid he
  clear hr he
  go_enter Try.func49, Try.ntmps49
  go_wp2_with fail
  go_loopw [3, 8] (fun v i wr => ∃ (k : Nat) (A' : Option Addr) (c' : Nat), k ≤ l.length ∧ i = .int .i64 k ∧ v = .slice A' k c' ∧ OwnI wr w.heap.size wr.heap.size [.s 29 4 k (FNode.flat (l.take k))] [.slice A' k c'] ∧ Below w.heap.size w wr) (fun _ i _ => l.length - (intOf i).toNat)
  case atStart => exact ⟨0, none, 0, Nat.zero_le _, rfl, rfl, by simpa using OwnI.none w w.heap.size w.heap.size 29 4, Below.refl _ _⟩
  case round =>
    obtain ⟨k, A', c', hk, rfl, rfl, hown, hb⟩ := hrel
    have HOWN := hid hown
    have hbs := hb.size
    clear hown
    by_cases hlt : k < l.length
    · obtain ⟨x, hx⟩ : ∃ x, l[k]? = some x := ⟨_, List.getElem?_eq_getElem hlt⟩
      obtain ⟨bc, offc, rfl, hblc, hcc⟩ := RdC.at_ FNode.len HC.out hx
      have HX := hid hx
      have HP := hid (HE.out x (List.mem_of_getElem? hx))
      clear hx
      obtain ⟨z0, z1, z2, z3⟩ := x
      rw [FNode.c_eq] at hcc
      obtain ⟨u0, e0, q0⟩ := hcc 0 _ rfl
      obtain rfl := q0.val
      obtain ⟨u1, e1, q1⟩ := hcc 1 _ rfl
      obtain rfl := q1.val
      obtain ⟨u2, e2, q2⟩ := hcc 2 _ rfl
      obtain rfl := q2.val
      obtain ⟨u3, e3, q3⟩ := hcc 3 _ rfl
      obtain ⟨A3, c3, rfl⟩ := q3.form
      have Q3 := hid q3
      have k0 : wr.cell? ⟨bc, offc + k * 4, none⟩ = some (.int .i64 z0) := (hb.cell (p := ⟨bc, _, none⟩) hblc).trans (by simpa using e0)
      have k1 : wr.cell? ⟨bc, offc + k * 4 + 1, none⟩ = some (.int .i64 z1) := (hb.cell (p := ⟨bc, _, none⟩) hblc).trans (by simpa using e1)
      have k2 : wr.cell? ⟨bc, offc + k * 4 + 2, none⟩ = some (.string z2) := (hb.cell (p := ⟨bc, _, none⟩) hblc).trans (by simpa using e2)
      have k3 : wr.cell? ⟨bc, offc + k * 4 + 3, none⟩ = some (.slice A3 z3.length c3) := (hb.cell (p := ⟨bc, _, none⟩) hblc).trans (by simpa using e3)
      clear hcc e0 e1 e2 e3 q0 q1 q2 q3
      go_wp2_with fail
      refine calls_worldD _ (fun X => OwnI X w.heap.size wr.heap.size [.s 29 4 k (FNode.flat (l.take k))] [.slice A' k c'] ∧ Below w.heap.size w X ∧ wr.heap.size ≤ X.heap.size) ⟨HOWN.out.alloc _, hb.alloc hbs _, by simp⟩ ?_
      clear HOWN hb k0 k1 k2 k3
      rintro X0 ⟨hown, hb, hs0⟩
      refine (HP.out [.int .i64 z0, .int .i64 z1, .string z2, .slice A3 z3.length c3] _ w.heap.size (by omega) (by rw [FNode.c_eq]; exact RdVs.cons (by unfold RdC; rfl) (RdVs.cons (by unfold RdC; rfl) (RdVs.cons (by unfold RdC; rfl) (RdVs.cons (Q3.out.below hb (Nat.le_refl _)) (RdVs.nil _ _)))))).mono ?_
      rw [FNode.c_eq]
      rintro e w2 ⟨us2, rfl, own2, hb2⟩
      have hv := own2.vs
      obtain ⟨us2_0, rfl, hv_0⟩ := hv.unv
      obtain ⟨us2_1, rfl, hv_1⟩ := hv_0.unv
      obtain ⟨us2_2, rfl, hv_2⟩ := hv_1.unv
      obtain ⟨D3, d3, us2_3, rfl, _, hv_3⟩ := hv_2.uns
      obtain rfl := hv_3.un0
      clear hv hv_0 hv_1 hv_2 hv_3
      have hN : FNode.c ⟨z0, z1, z2, z3⟩ = _ := FNode.c_eq z0 z1 z2 z3
      rw [← hN] at own2
      have hs2 : X0.heap.size ≤ w2.heap.size := hb2.size
      have hb3 := hb.trans (hb2.mono (by omega))
      obtain ⟨us, G, ho, hol, hG, hGb, hGv⟩ := (hown.below hb2 (Nat.le_refl _)).row
      obtain ⟨G2, g1, g2, g3⟩ := own2
      have HO := hid (World.ownsRow.alloc ho (.cells #[.int .i64 z0, .int .i64 z1, .string z2, .slice D3 z3.length d3] 29))
      have HN := hid (rd_new w2 29 4 [.int .i64 z0, .int .i64 z1, .string z2, .slice D3 z3.length d3] rfl)
      have H1 := hid (node_onecell _ g1)
      have hbw : w.heap.size ≤ w2.heap.size := by omega
      have HG1 := hid (OwnL.keep _ _ _ hol (w' := w2.alloc (.cells #[.int .i64 z0, .int .i64 z1, .string z2, .slice D3 z3.length d3] 29)) fun g hg => Below.heap_alloc w2 _ g (OwnL.lt _ _ _ hol g hg))
      have HG2 := hid (OwnL.keep _ _ _ g1 (w' := w2.alloc (.cells #[.int .i64 z0, .int .i64 z1, .string z2, .slice D3 z3.length d3] 29)) fun g hg => Below.heap_alloc w2 _ g (OwnL.lt _ _ _ g1 g hg))
      have HV := hid hGv
      have HB := hid hGb
      have HB2 := hid g3
      have HD1 := hid hG
      have HD2 := hid g2
      clear ho hol g1 hGv hGb g3 hG g2 hown hb2 hN
      go_wp2_with (at_builtin; refine wpList_append_rd _ rfl _ _ _ rfl w.heap.size _ _ _ 56 Try.underlying27 infoNodeC rfl (by omega) (.slice A' k c') k us rfl HO.out (w2.heap.size + 1) _ 1 1 [.int .i64 z0, .int .i64 z1, .string z2, .slice D3 z3.length d3] rfl HN.out H1.out (by unfold maxLen; omega) (by omega) (by simp; omega) ?_; intro v1 w1 hown1 hg1 hat1)
      obtain ⟨A4, c4, rfl⟩ := own_form hown1
      go_roundw
      case rel =>
        have hp := OwnI.pushed hown1 hg1 hat1 HG1.out HG2.out HD1.out HD2.out (fun b hb1 hb2 => by have := HB.out b hb1; have := HB2.out b hb2; omega) (fun b hb1 => (HB.out b hb1).1) (fun b hb1 => by have := HB2.out b hb1; omega) (fun g hg => ⟨(HV.out g hg).1, fun h2 => by have := (HV.out g hg).2; have := HB2.out g h2; omega⟩)
        refine ⟨k + 1, A4, c4, by omega, by go_num, rfl, ?_, Below.grownI (hb3.alloc hbw _) hg1 (fun g hg => (HV.out g hg).2.1) (by simp; omega)⟩
        rw [FNode.flat_take l k _ HX.out]
        exact hp
      case measure => simp [intOf]; omega
    · obtain rfl : k = l.length := by omega
      clear hlt
      go_wp2_with fail
      go_ret
      have ho := HOWN.out
      rw [List.take_length] at ho
      exact ⟨_, _, rfl, ho, hb⟩
mutual
theorem cpNode_any : ∀ (x : FNode), x.wt ≤ 1000000000 → CpNode 31 x
  | .mk a0 a1 a2 a3, hw => by
    unfold FNode.wt at hw
    exact cpNode_of a0 a1 a2 a3 (cpNodeS_of a3 (by omega) (cpNode_all a3 (by omega)))
theorem cpNode_all : ∀ (l : List FNode), l.length + FNode.wts l ≤ 1000000000 → ∀ x, x ∈ l → CpNode 31 x
  | [], _, x, hx => by cases hx
  | y :: r, hw, x, hx => by
    unfold FNode.wts at hw
    simp only [List.length_cons] at hw
    rcases List.mem_cons.1 hx with e | hx
    · rw [e]
      exact cpNode_any y (by omega)
    · exact cpNode_all r (by omega) x hx
end
end Go.Proofs.Ytgejkfcemlkclaa
namespace Go.Proofs.Ytgejkfcemlkclaa
open Go.ChangeShapes Go.WideShapes Go.ChangeAt Go.RowKit Go.Deep Go.Joins
mutual
def clN : FNode → List FNode
  | .mk a0 a1 a2 a3 => (if (a0 == 23) = true then [.mk a0 a1 a2 a3] else []) ++ clL a3
def clL : List FNode → List FNode
  | [] => []
  | x :: r => clN x ++ clL r
end
theorem clL_take : ∀ (z : List FNode) (k : Nat) (x : FNode), z[k]? = some x → clL (z.take (k + 1)) = clL (z.take k) ++ clN x
  | [], k, x, h => by simp at h
  | y :: r, 0, x, h => by
    obtain rfl : y = x := by simpa using h
    simp [clL]
  | y :: r, k + 1, x, h => by
    rw [List.take_succ_cons, List.take_succ_cons, clL, clL, clL_take r k x (by simpa using h), List.append_assoc]
theorem FNode.wts_app : ∀ (l r : List FNode), FNode.wts (l ++ r) = FNode.wts l + FNode.wts r
  | [], r => by simp [FNode.wts]
  | x :: l, r => by rw [List.cons_append, FNode.wts, FNode.wts, FNode.wts_app l r]; omega
mutual
theorem clN_len : ∀ (x : FNode), (clN x).length ≤ x.wt + 1
  | .mk a0 a1 a2 a3 => by
    rw [clN, FNode.wt_eq, List.length_append]
    have h := clL_len a3
    split <;> simp <;> omega
theorem clL_len : ∀ (z : List FNode), (clL z).length ≤ z.length + FNode.wts z
  | [] => by simp [clL, FNode.wts]
  | x :: r => by
    rw [clL, FNode.wts, List.length_cons, List.length_append]
    have h1 := clN_len x
    have h2 := clL_len r
    omega
end
end Go.Proofs.Ytgejkfcemlkclaa
namespace Go.Proofs.Ytgejkfcemlkclaa
open Go.ChangeShapes Go.WideShapes Go.ChangeAt Go.RowKit Go.Deep Go.Joins
open Go.ChangeMaps (open_string shut_string)
set_option maxRecDepth 100000
/-- Values that read as these cells in every world that is as X at the blocks of S. -/
def NdS (X : World) (S : Nat → Prop) (xs : List Cel) (us : List Value) : Prop := ∀ w2 : World, (∀ p : Addr, S p.block → w2.cell? p = X.cell? p) → RdVs w2 X.heap.size xs us
section
variable {X X' : World} {S S' : Nat → Prop} {xs ys : List Cel} {us vs : List Value} {lo hi g : Nat} {A : Option Addr} {m c K : Nat}
theorem NdS.keep (h : NdS X S xs us) (hk : ∀ p : Addr, S p.block → X'.cell? p = X.cell? p) (hs : X.heap.size ≤ X'.heap.size) : NdS X' S xs us := fun w2 h2 => (h w2 fun p hp => (h2 p hp).trans (hk p hp)).up hs
theorem NdS.sup (h : NdS X S xs us) (hS : ∀ k, S k → S' k) : NdS X S' xs us := fun w2 h2 => h w2 fun p hp => h2 p (hS _ hp)
theorem NdS.app (h : NdS X S xs us) (h' : NdS X S ys vs) : NdS X S (xs ++ ys) (us ++ vs) := fun w2 h2 => (h w2 h2).app (h' w2 h2)
theorem NdV.toS (h : NdV X lo xs us) : NdS X (fun k => lo ≤ k ∧ k < X.heap.size) xs us := fun w2 h2 => h w2 fun p h3 h4 => h2 p ⟨h3, h4⟩
/-- A row of trees of one's own, in blocks from lo to hi: its values vs; the trees' blocks S do not hold the row's. -/
def GRs (X : World) (lo hi : Nat) (S : Nat → Prop) (A : Option Addr) (m c K : Nat) (vs : List Value) : Prop := ∃ l : List FNode, l.length = m ∧ X.ownsRow lo 29 4 (.slice A m c) m vs ∧ NdS X S (FNode.flat l) vs ∧ (∀ k, S k → lo ≤ k ∧ k < hi) ∧ (∀ b, (Value.slice A m c).ownBlock = some b → ¬ S b ∧ b < hi) ∧ FNode.wts l ≤ K ∧ hi ≤ X.heap.size
def GRl (X : World) (lo hi : Nat) (A : Option Addr) (m c K : Nat) (vs : List Value) : Prop := ∃ S : Nat → Prop, GRs X lo hi S A m c K vs
theorem GRl.nil (X : World) (lo : Nat) : GRl X lo X.heap.size none 0 0 0 [] := ⟨fun _ => False, [], rfl, World.ownsRow_nil _ _ _ _, fun w2 _ => RdVs.nil _ _, fun k h => absurd h id, fun b h => (by cases h), (by unfold FNode.wts; exact Nat.le_refl _), Nat.le_refl _⟩
theorem GRl.own (h : GRl X lo hi A m c K vs) : X.ownsRow lo 29 4 (.slice A m c) m vs := by obtain ⟨S, l, _, ho, _⟩ := h; exact ho
theorem GRl.lt (h : GRl X lo hi A m c K vs) : ∀ b, (Value.slice A m c).ownBlock = some b → lo ≤ b ∧ b < hi := fun b hb => by
  obtain ⟨S, l, _, ho, _, _, h5, _⟩ := h
  exact ⟨(ho.lt b hb).1, (h5 b hb).2⟩
theorem GRl.hi_le (h : GRl X lo hi A m c K vs) : hi ≤ X.heap.size := by obtain ⟨S, l, _, _, _, _, _, _, h⟩ := h; exact h
theorem GRl.le {K' : Nat} (h : GRl X lo hi A m c K vs) (hK : K ≤ K') : GRl X lo hi A m c K' vs := by
  obtain ⟨S, l, h1, h2, h3, h4, h5, h6, h7⟩ := h
  exact ⟨S, l, h1, h2, h3, h4, h5, Nat.le_trans h6 hK, h7⟩
/-- Blocks from lo to hi stay. -/
theorem GRl.keep (h : GRl X lo hi A m c K vs) (hk : ∀ b, lo ≤ b → b < hi → X'.heap[b]? = X.heap[b]?) (hs : X.heap.size ≤ X'.heap.size) : GRl X' lo hi A m c K vs := by
  have hlt := h.lt
  obtain ⟨S, l, h1, h2, h3, h4, h5, h6, h7⟩ := h
  refine ⟨S, l, h1, own_keep h2 fun b hb => hk b (hlt b hb).1 (hlt b hb).2, h3.keep (fun p hp => ?_) hs, h4, h5, h6, Nat.le_trans h7 hs⟩
  have e := hk p.block (h4 _ hp).1 (h4 _ hp).2
  unfold World.cell?
  rw [e]
theorem GRl.stp (h : GRl X lo hi A m c K vs) (ho : Only g (g + 1) X.heap.size X X') (hg : g < lo) : GRl X' lo hi A m c K vs := h.keep (fun b h1 h2 => ho.block b (Nat.lt_of_lt_of_le h2 h.hi_le) (by omega)) ho.size
/-- Another row grows. -/
theorem GRl.grown {row : Option Nat} (h : GRl X lo hi A m c K vs) (hg : X.grownBy X' row) (hr : ∀ b, row = some b → hi ≤ b) : GRl X' lo hi A m c K vs := h.keep (fun b h1 h2 => hg.block b (Nat.lt_of_lt_of_le h2 h.hi_le) (fun e => by have := hr b e.symm; omega)) hg.size
/-- The trees' blocks and the row's stay. -/
theorem GRs.keep {S : Nat → Prop} (h : GRs X lo hi S A m c K vs) (hk : ∀ b, S b ∨ (Value.slice A m c).ownBlock = some b → X'.heap[b]? = X.heap[b]?) (hs : X.heap.size ≤ X'.heap.size) : GRs X' lo hi S A m c K vs := by
  obtain ⟨l, h1, h2, h3, h4, h5, h6, h7⟩ := h
  refine ⟨l, h1, own_keep h2 fun b hb => hk b (.inr hb), h3.keep (fun p hp => ?_) hs, h4, h5, h6, Nat.le_trans h7 hs⟩
  have e := hk p.block (.inl hp)
  unfold World.cell?
  rw [e]
/-- More trees. -/
theorem GRs.cat {S : Nat → Prop} {l1 : List FNode} {S1 : Nat → Prop} {us1 : List Value} {m1 K1 : Nat} {v' : Value} (h : GRs X lo hi S A m c K vs) (hl1 : l1.length = m1) (hx : NdS X S1 (FNode.flat l1) us1) (hS1 : ∀ k, S1 k → lo ≤ k ∧ k < X.heap.size) (hd : ∀ b, (Value.slice A m c).ownBlock = some b → ¬ S1 b) (hxw : FNode.wts l1 ≤ K1)
    (hown : X'.ownsRow lo 29 4 v' (m + m1) (vs ++ us1)) (hg : X.grownBy X' (Value.slice A m c).ownBlock) (hat : v'.ownBlock = (Value.slice A m c).ownBlock ∨ v'.ownBlock = some X.heap.size) :
    ∃ A' c', v' = .slice A' (m + m1) c' ∧ GRs X' lo X'.heap.size (fun q => S q ∨ S1 q) A' (m + m1) c' (K + K1) (vs ++ us1) := by
  obtain ⟨l, h1, h2, h3, h4, h5, h6, h7⟩ := h
  obtain ⟨A', c', rfl⟩ := own_form hown
  have hS : ∀ q : Nat, (S q ∨ S1 q) → lo ≤ q ∧ q < X.heap.size ∧ some q ≠ (Value.slice A m c).ownBlock := fun q hq => by
    rcases hq with hq | hq
    · exact ⟨(h4 q hq).1, Nat.lt_of_lt_of_le (h4 q hq).2 h7, fun e => (h5 q e.symm).1 hq⟩
    · exact ⟨(hS1 q hq).1, (hS1 q hq).2, fun e => hd q e.symm hq⟩
  refine ⟨A', c', rfl, l ++ l1, by simp [h1, hl1], hown, ?_, fun q hq => ⟨(hS q hq).1, Nat.lt_of_lt_of_le (hS q hq).2.1 hg.size⟩, fun b hb => ⟨fun hq => ?_, (hown.lt b hb).2⟩, ?_, Nat.le_refl _⟩
  · have e : FNode.flat (l ++ l1) = FNode.flat l ++ FNode.flat l1 := by simp [FNode.flat, List.flatMap_append]
    rw [e]
    exact ((h3.sup fun q hq => .inl hq).app (hx.sup fun q hq => .inr hq)).keep (fun p hp => by
      have hpp := hS _ hp
      have hbk := hg.block p.block hpp.2.1 hpp.2.2
      unfold World.cell?
      rw [hbk]) hg.size
  · have hqq := hS b hq
    rcases hat with e | e
    · rw [e] at hb
      exact hqq.2.2 hb.symm
    · rw [e] at hb
      have : X.heap.size = b := by simpa using hb
      omega
  · rw [FNode.wts_app]
    omega
theorem GRl.cat {l1 : List FNode} {S1 : Nat → Prop} {us1 : List Value} {m1 K1 : Nat} {v' : Value} (h : GRl X lo hi A m c K vs) (hl1 : l1.length = m1) (hx : NdS X S1 (FNode.flat l1) us1) (hS1 : ∀ k, S1 k → lo ≤ k ∧ k < X.heap.size) (hd : ∀ b, (Value.slice A m c).ownBlock = some b → ¬ S1 b) (hxw : FNode.wts l1 ≤ K1)
    (hown : X'.ownsRow lo 29 4 v' (m + m1) (vs ++ us1)) (hg : X.grownBy X' (Value.slice A m c).ownBlock) (hat : v'.ownBlock = (Value.slice A m c).ownBlock ∨ v'.ownBlock = some X.heap.size) :
    ∃ A' c', v' = .slice A' (m + m1) c' ∧ GRl X' lo X'.heap.size A' (m + m1) c' (K + K1) (vs ++ us1) := by
  obtain ⟨S, h⟩ := h
  obtain ⟨A', c', e, g⟩ := h.cat hl1 hx hS1 hd hxw hown hg hat
  exact ⟨A', c', e, _, g⟩
/-- One tree more. -/
theorem GRl.push {k n : Int} {t : ByteArray} {A1 : Option Addr} {m1 c1 K1 lo1 : Nat} {v' : Value} (h : GRl X lo hi A m c K vs) (hT : Tr X lo1 k n t A1 m1 c1 K1) (hlo : lo ≤ lo1) (hb1 : ∀ b, (Value.slice A m c).ownBlock = some b → b < lo1)
    (hown : X'.ownsRow lo 29 4 v' (m + 1) (vs ++ [.int .i64 k, .int .i64 n, .string t, .slice A1 m1 c1])) (hg : X.grownBy X' (Value.slice A m c).ownBlock) (hat : v'.ownBlock = (Value.slice A m c).ownBlock ∨ v'.ownBlock = some X.heap.size) :
    ∃ A' c', v' = .slice A' (m + 1) c' ∧ GRl X' lo X'.heap.size A' (m + 1) c' (K + K1) (vs ++ [.int .i64 k, .int .i64 n, .string t, .slice A1 m1 c1]) := by
  obtain ⟨x, hx, hxw⟩ := hT.vals
  have e : FNode.flat [x] = x.c := by simp [FNode.flat]
  exact h.cat (l1 := [x]) (S1 := fun q => lo1 ≤ q ∧ q < X.heap.size) rfl (by rw [e]; exact hx.toS) (fun q hq => ⟨by omega, hq.2⟩) (fun b hb hq => by have := hb1 b hb; omega) (by simp only [FNode.wts]; omega) hown hg hat
/-- One tree more; and a store between the old trees and the new one. -/
theorem GRl.push_set {k n : Int} {t : ByteArray} {A1 : Option Addr} {m1 c1 K1 lo1 : Nat} {v' : Value} (h : GRl X lo hi A m c K vs) (hT : Tr X lo1 k n t A1 m1 c1 K1) (hlo : lo ≤ lo1) (hb1 : ∀ b, (Value.slice A m c).ownBlock = some b → b < lo1)
    (hown : X'.ownsRow lo 29 4 v' (m + 1) (vs ++ [.int .i64 k, .int .i64 n, .string t, .slice A1 m1 c1])) (hg : X.grownBy X' (Value.slice A m c).ownBlock) (hat : v'.ownBlock = (Value.slice A m c).ownBlock ∨ v'.ownBlock = some X.heap.size)
    {p : Addr} (hp1 : hi ≤ p.block) (hp2 : p.block < lo1) (hp3 : lo1 ≤ X.heap.size) :
    ∃ A' c', v' = .slice A' (m + 1) c' ∧ ∀ u, GRl (X'.setCell p u) lo X'.heap.size A' (m + 1) c' (K + K1) (vs ++ [.int .i64 k, .int .i64 n, .string t, .slice A1 m1 c1]) := by
  obtain ⟨x, hx, hxw⟩ := hT.vals
  have e : FNode.flat [x] = x.c := by simp [FNode.flat]
  have hlt := h.lt
  obtain ⟨S, h⟩ := h
  have hS : ∀ k, S k → lo ≤ k ∧ k < hi := by obtain ⟨l, _, _, _, h4, _⟩ := h; exact h4
  obtain ⟨A', c', rfl, G⟩ := h.cat (l1 := [x]) (S1 := fun q => lo1 ≤ q ∧ q < X.heap.size) rfl (by rw [e]; exact hx.toS) (fun q hq => ⟨by omega, hq.2⟩) (fun b hb hq => by have := hb1 b hb; omega) (by simp only [FNode.wts]; omega) hown hg hat
  refine ⟨A', c', rfl, fun u => ⟨_, G.keep (fun b hb => Below.heap_setCell _ _ _ _ ?_) (by simp [World.setCell])⟩⟩
  rcases hb with (hb | hb) | hb
  · have := (hS b hb).2
    omega
  · have := hb.1
    omega
  · rcases hat with e | e
    · rw [e] at hb
      have := (hlt b hb).2
      omega
    · rw [e] at hb
      injection hb with hb
      omega
/-- A literal row of trees. -/
theorem GRs.lits {S : Nat → Prop} {l : List FNode} {us : List Value} {n K1 : Nat} (hx : NdS X S (FNode.flat l) us) (hS : ∀ q, S q → lo ≤ q ∧ q < X.heap.size) (hn : l.length = n) (hn2 : n ≤ 1000) (hu : us.length = n * 4) (hw : FNode.wts l ≤ K1) (hl : lo ≤ X.heap.size) :
    GRs (X.alloc (.cells us.toArray 29)) lo (X.heap.size + 1) S (some ⟨X.heap.size, 0, none⟩) n n K1 us := by
  have hb : Below X.heap.size X (X.alloc (.cells us.toArray 29)) := (Below.refl _ _).alloc (Nat.le_refl _) _
  refine ⟨l, hn, ⟨hu, .inr ⟨X.heap.size, n, _, rfl, hl, heap_alloc_new X _, Nat.le_refl _, by unfold maxLen; omega, by simp [hu], by simp [← hu]⟩⟩, hx.keep (fun p hp => hb.cell (hS _ hp).2) hb.size, fun q hq => ⟨(hS q hq).1, by have := (hS q hq).2; omega⟩, fun b hb2 => ?_, hw, by simp⟩
  have : X.heap.size = b := by simpa [Value.ownBlock] using hb2
  exact ⟨fun hq => by have := (hS b hq).2; omega, by omega⟩
theorem GRl.lits {l : List FNode} {us : List Value} {n K1 lo1 : Nat} (hx : NdV X lo1 (FNode.flat l) us) (hn : l.length = n) (hn2 : n ≤ 1000) (hu : us.length = n * 4) (hw : FNode.wts l ≤ K1) (hlo : lo ≤ lo1) (hl : lo1 ≤ X.heap.size) :
    GRl (X.alloc (.cells us.toArray 29)) lo (X.heap.size + 1) (some ⟨X.heap.size, 0, none⟩) n n K1 us :=
  ⟨_, GRs.lits hx.toS (fun q hq => ⟨by omega, hq.2⟩) hn hn2 hu hw (by omega)⟩
/-- A node over a new literal row. -/
theorem NdS.node {S : Nat → Prop} {l : List FNode} {us : List Value} {p : Nat} (hx : NdS X S (FNode.flat l) us) (hS : ∀ q, S q → q < X.heap.size) (hp : l.length = p) (hp2 : p ≤ 1000) (k n : Int) (t : ByteArray) :
    NdS (X.alloc (.cells us.toArray 29)) (fun q => S q ∨ q = X.heap.size) (FNode.mk k n t l).c [.int .i64 k, .int .i64 n, .string t, .slice (some ⟨X.heap.size, 0, none⟩) p p] := fun w2 hw => by
  subst hp
  have hb : Below X.heap.size X (X.alloc (.cells us.toArray 29)) := (Below.refl _ _).alloc (Nat.le_refl _) _
  have hr := (hx.keep (X' := X.alloc (.cells us.toArray 29)) (fun p hp => hb.cell (hS _ hp)) hb.size) w2 fun p hp => hw p (.inl hp)
  rw [FNode.c_eq]
  refine RdVs.cons (by unfold RdC; rfl) (RdVs.cons (by unfold RdC; rfl) (RdVs.cons (by unfold RdC; rfl) (RdVs.cons ?_ (RdVs.nil _ _))))
  unfold RdC
  refine ⟨_, _, rfl, Nat.le_refl _, by unfold maxLen; omega, nflat_len l, fun _ => ⟨_, _, rfl, by simp, RdL.of _ _ fun j x hx => ?_⟩⟩
  have hj : j < us.length := by rw [hr.1]; exact (List.getElem?_eq_some_iff.1 hx).1
  refine ⟨us[j], (hw ⟨X.heap.size, 0 + j, none⟩ (.inr rfl)).trans ?_, hr.2 j x _ hx (List.getElem?_eq_getElem hj)⟩
  rw [World.cell?_alloc_new]
  simp [hj]
theorem GRl.lit {k n : Int} {t : ByteArray} {A1 : Option Addr} {m1 c1 K1 lo1 : Nat} (hT : Tr X lo1 k n t A1 m1 c1 K1) (hlo : lo ≤ lo1) (hl : lo1 ≤ X.heap.size) :
    GRl (X.alloc (.cells #[.int .i64 k, .int .i64 n, .string t, .slice A1 m1 c1] 29)) lo (X.heap.size + 1) (some ⟨X.heap.size, 0, none⟩) 1 1 K1 [.int .i64 k, .int .i64 n, .string t, .slice A1 m1 c1] := by
  obtain ⟨x, hx, hxw⟩ := hT.vals
  exact GRl.lits (l := [x]) (us := [.int .i64 k, .int .i64 n, .string t, .slice A1 m1 c1]) (by simpa [FNode.flat] using hx) rfl (by omega) rfl (by simp only [FNode.wts]; omega) hlo hl
theorem GRl.lit2 {k n : Int} {t : ByteArray} {A1 : Option Addr} {m1 c1 K1 lo1 : Nat} {k' n' : Int} {t' : ByteArray} {A2 : Option Addr} {m2 c2 K2 : Nat} (hT : Tr X lo1 k n t A1 m1 c1 K1) (hT2 : Tr X lo1 k' n' t' A2 m2 c2 K2) (hlo : lo ≤ lo1) (hl : lo1 ≤ X.heap.size) :
    GRl (X.alloc (.cells #[.int .i64 k, .int .i64 n, .string t, .slice A1 m1 c1, .int .i64 k', .int .i64 n', .string t', .slice A2 m2 c2] 29)) lo (X.heap.size + 1) (some ⟨X.heap.size, 0, none⟩) 2 2 (K1 + K2) [.int .i64 k, .int .i64 n, .string t, .slice A1 m1 c1, .int .i64 k', .int .i64 n', .string t', .slice A2 m2 c2] := by
  obtain ⟨x, hx, hxw⟩ := hT.vals
  obtain ⟨y, hy, hyw⟩ := hT2.vals
  exact GRl.lits (l := [x, y]) (us := [.int .i64 k, .int .i64 n, .string t, .slice A1 m1 c1, .int .i64 k', .int .i64 n', .string t', .slice A2 m2 c2]) (by simpa [FNode.flat] using hx.app hy) rfl (by omega) rfl (by simp only [FNode.wts]; omega) hlo hl
theorem NdR.at_blk {l : List FNode} (h : NdR X lo (.slice A l.length c) l) (hl : 0 < l.length) : ∃ b off, A = some ⟨b, off, none⟩ ∧ lo ≤ b ∧ b < X.heap.size := by
  have r := h.rd
  unfold RdC at r
  obtain ⟨A', c', e, _, _, hlen, hd⟩ := r
  simp only [Value.slice.injEq, true_and] at e
  obtain ⟨rfl, rfl⟩ := e
  obtain ⟨b, off, rfl, hb, _⟩ := hd hl
  refine ⟨b, off, rfl, ?_, hb⟩
  rcases Nat.lt_or_ge b lo with hlt | hge
  · exfalso
    have hag : Agr X lo { X with heap := X.heap.setIfInBounds b (.cells #[] 29 (0, 0)) } := fun p h1 h2 => by
      have e : (X.heap.setIfInBounds b (.cells #[] 29 (0, 0)))[p.block]? = X.heap[p.block]? := Array.getElem?_setIfInBounds_ne (by omega)
      simp only [World.cell?, e]
    have r2 := h _ hag
    unfold RdC at r2
    obtain ⟨A2, c2, e2, _, _, _, hd2⟩ := r2
    simp only [Value.slice.injEq, true_and] at e2
    obtain ⟨rfl, rfl⟩ := e2
    obtain ⟨b2, off2, e3, _, hL⟩ := hd2 hl
    obtain ⟨rfl, rfl⟩ : b = b2 ∧ off = off2 := by simpa using e3
    obtain ⟨x, hx⟩ : ∃ x, (FNode.flat l)[0]? = some x := ⟨_, List.getElem?_eq_getElem (by rw [hlen]; omega)⟩
    obtain ⟨u, hu, _⟩ := RdL.get _ _ 0 x hL hx
    simp [World.cell?, hb] at hu
  · exact hge
theorem cel_one {w : World} {B : Nat} {l : List FNode} {x : Cel} {u : Value} (hx : x ∈ FNode.flat l) (h : RdC w B x u) : u.oneCell' = true := by
  obtain ⟨y, _, hy⟩ := List.mem_flatMap.1 hx
  obtain ⟨y0, y1, y2, y3⟩ := y
  rw [FNode.c_eq] at hy
  simp only [List.mem_cons, List.not_mem_nil, or_false] at hy
  rcases hy with rfl | rfl | rfl | rfl
  · obtain rfl := h.val; rfl
  · obtain rfl := h.val; rfl
  · obtain rfl := h.val; rfl
  · obtain ⟨A, c, rfl⟩ := h.form; rfl
theorem Tr.rw {k n : Int} {t : ByteArray} (h : Tr X lo k n t A m c K) : Rw X lo A m c K := by
  obtain ⟨l, h1, h2, h3⟩ := h
  exact ⟨l, h1, h2, by rw [FNode.wt_eq] at h3; omega⟩
theorem Tr.sz {k n : Int} {t : ByteArray} (h : Tr X lo k n t A m c K) : t.size + m ≤ K := by
  obtain ⟨l, rfl, h2, h3⟩ := h
  rw [FNode.wt_eq] at h3
  omega
/-- A row's values, cell by cell. -/
theorem Rw.vals (h : Rw X lo A m c K) : ∃ (us : List Value) (l : List FNode), l.length = m ∧ NdS X (fun q => lo ≤ q ∧ q < X.heap.size) (FNode.flat l) us ∧ Rd X X.heap.size 4 (.slice A m c) m us ∧ (∀ u ∈ us, u.oneCell' = true) ∧ FNode.wts l ≤ K := by
  obtain ⟨l, rfl, h2, h3⟩ := h
  have r := h2.rd
  unfold RdC at r
  obtain ⟨A', c', e, g1, g2, hlen, hd⟩ := r
  simp only [Value.slice.injEq, true_and] at e
  obtain ⟨rfl, rfl⟩ := e
  by_cases hl : 0 < l.length
  · obtain ⟨b, off, rfl, hlo, hb⟩ := h2.at_blk hl
    have key : ∀ w2 : World, (∀ p : Addr, lo ≤ p.block ∧ p.block < X.heap.size → w2.cell? p = X.cell? p) → ∀ j x, (FNode.flat l)[j]? = some x → ∃ u, X.cell? ⟨b, off + j, none⟩ = some u ∧ RdC w2 X.heap.size x u := fun w2 hw j x hx => by
      have r2 := h2 w2 fun p h3 h4 => hw p ⟨h3, h4⟩
      unfold RdC at r2
      obtain ⟨A2, c2, e2, _, _, _, hd2⟩ := r2
      simp only [Value.slice.injEq, true_and] at e2
      obtain ⟨rfl, rfl⟩ := e2
      obtain ⟨b2, off2, e3, _, hL⟩ := hd2 hl
      obtain ⟨rfl, rfl⟩ : b = b2 ∧ off = off2 := by simpa using e3
      obtain ⟨u, hu, hr⟩ := RdL.get _ _ j x hL hx
      exact ⟨u, (hw ⟨b, off + j, none⟩ ⟨hlo, hb⟩).symm.trans hu, hr⟩
    refine ⟨(List.range (l.length * 4)).map fun j => (X.cell? ⟨b, off + j, none⟩).getD .nilIface, l, rfl, fun w2 hw => ⟨by simp [hlen], fun j x u hx hu => ?_⟩, ⟨_, _, rfl, g1, g2, by simp, fun _ => ⟨b, off, rfl, hb, fun j u hu => ?_⟩⟩, fun u hu => ?_, h3⟩
    · obtain ⟨u', hu', hr⟩ := key w2 hw j x hx
      have hj : j < l.length * 4 := by rw [← hlen]; exact (List.getElem?_eq_some_iff.1 hx).1
      simp only [List.getElem?_map, List.getElem?_range hj, Option.map_some, hu', Option.getD_some, Option.some.injEq] at hu
      subst hu
      exact hr
    · have hj : j < l.length * 4 := by have := (List.getElem?_eq_some_iff.1 hu).1; simpa using this
      obtain ⟨x, hx⟩ : ∃ x, (FNode.flat l)[j]? = some x := ⟨_, List.getElem?_eq_getElem (by rw [hlen]; exact hj)⟩
      obtain ⟨u', hu', hr⟩ := key X (fun _ _ => rfl) j x hx
      simp only [List.getElem?_map, List.getElem?_range hj, Option.map_some, hu', Option.getD_some, Option.some.injEq] at hu
      subst hu
      exact hu'
    · obtain ⟨j, hj, rfl⟩ := List.mem_map.1 hu
      have hj := List.mem_range.1 hj
      obtain ⟨x, hx⟩ : ∃ x, (FNode.flat l)[j]? = some x := ⟨_, List.getElem?_eq_getElem (by rw [hlen]; exact hj)⟩
      obtain ⟨u', hu', hr⟩ := key X (fun _ _ => rfl) j x hx
      rw [hu']
      exact cel_one (List.mem_of_getElem? hx) hr
  · obtain rfl : l = [] := List.eq_nil_of_length_eq_zero (by omega)
    exact ⟨[], [], rfl, fun w2 _ => RdVs.nil _ _, ⟨_, _, rfl, g1, g2, rfl, fun h => absurd h hl⟩, by simp, h3⟩
/-- Read as a row. -/
theorem GRl.row (h : GRl X lo hi A m c K vs) : Rw X lo A m c K := by
  obtain ⟨S, l, rfl, h2, h3, h4, h5, h6, h7⟩ := h
  refine ⟨l, rfl, fun w2 hw2 => ?_, h6⟩
  have hr := h3 w2 fun p hp => hw2 p (h4 _ hp).1 (Nat.lt_of_lt_of_le (h4 _ hp).2 h7)
  rcases own_row h2 with ⟨e, hn, hv⟩ | ⟨b, cap, f, e, hb, hnc, hcap, hrow, hf⟩
  · injection e with e1 e2 e3
    subst e1 e3
    have hl : l = [] := List.eq_nil_of_length_eq_zero hn
    subst hl
    exact NdR.nil X lo w2 hw2
  · simp only [Value.slice.injEq, true_and] at e
    obtain ⟨rfl, rfl⟩ := e
    unfold RdC
    refine ⟨_, _, rfl, hnc, hcap, nflat_len l, fun _ => ⟨_, _, rfl, hrow.lt, RdL.of _ _ fun j x hx => ?_⟩⟩
    have hj : j < vs.length := by rw [hr.1]; exact (List.getElem?_eq_some_iff.1 hx).1
    have hvl : vs.length = l.length * 4 := h2.1
    have hvj := hf j (by omega)
    exact ⟨f j, (hw2 ⟨b, 0 + j, none⟩ hb hrow.lt).trans (by rw [Nat.zero_add]; exact hrow.cell (by omega)), hr.2 j x _ hx hvj⟩
end
end Go.Proofs.Ytgejkfcemlkclaa
namespace Go.Proofs.Ytgejkfcemlkclaa
set_option maxHeartbeats 40000000
open Go.ChangeShapes Go.WideShapes Go.ChangeAt Go.RowKit Go.Deep Go.Joins
open Go.ChangeMaps (open_string shut_string)
set_option maxRecDepth 100000
def MkI (deep : Int) (K : Nat) : Prop := ∀ (g B : Nat) (w : World), Cur w g B → Calls Try.prog 75 #[.pointer (some ⟨g, 0, none⟩), .int .i64 deep] w (DrT g B K w)
theorem aim_of (deep : Int) (hd : -1000 ≤ deep) (hd2 : deep ≤ 1000) (K : Nat) (hM : MkI (deep - 1) K) (g B : Nat) (w : World) (hc : Cur w g B) : Calls Try.prog 77 #[.pointer (some ⟨g, 0, none⟩), .int .i64 deep] w (DrT g B (K + 1000) w) := by
  have hgw := hc.lt
  have k1 := (Below.refl w.heap.size w).alloc (Nat.le_refl _) (.cells #[.int .i64 0, .int .i64 0, .string ⟨#[]⟩, .slice none 0 0] 29)
  have TK := Trk.start (hc.alloc (.cells #[.int .i64 0, .int .i64 0, .string ⟨#[]⟩, .slice none 0 0] 29))
  have RB := Blk.new w 29 #[.int .i64 0, .int .i64 0, .string ⟨#[]⟩, .slice none 0 0]
  clear hc
  go_enter Try.func77, Try.ntmps77
  go_upto_region 1 with fail
  generalize hw1 : w.alloc (.cells #[.int .i64 0, .int .i64 0, .string ⟨#[]⟩, .slice none 0 0] 29) = w1 at *
  have hs1 : w.heap.size < w1.heap.size := RB.lt
  have hgl : g < w1.heap.size := by omega
  go_upto_region 2 with (first | (go_at_call 30; refine (l1Below_any g B 5 (by decide) (by decide) _ TK.cur).mono ?_; rintro e W1 ⟨⟨x2, hx2, rfl⟩, U, O⟩; replace RB := RB.only O (Nat.le_refl _) (by omega); replace TK := TK.call U O; clear U O; have hgW := Nat.lt_of_lt_of_le hgl TK.size; have tok1_1 : True := trivial))
  have H := (show x2 = 0 ∨ x2 = 1 ∨ x2 = 2 ∨ x2 = 3 ∨ x2 = 4 from by omega)
  rcases H with rfl | rfl | rfl | rfl | rfl
  · go_wp2_with (first | (have _q := tok3_2; go_at_call 27; have r7 := Rw.row2 W5.heap.size (by simp) TK.size q4 q6; clear q4 q6; have sT := stp_new g W5 (.cells #[.int .i64 k4, .int .i64 n4, .string t4, .slice A4 m4 c4, .int .i64 k6, .int .i64 n6, .string t6, .slice A6 m6 c6] 29); replace RB := RB.only sT (Nat.le_refl _) (by omega); clear sT; replace TK := TK.alloc (.cells #[.int .i64 k4, .int .i64 n4, .string t4, .slice A4 m4 c4, .int .i64 k6, .int .i64 n6, .string t6, .slice A6 m6 c6] 29); have q9 := r7.mk (7) (0) (⟨#[]⟩) (0 + 2) (by decide); clear r7; refine (l15N_any _ _ _ _ _ _).mono ?_; rintro e W8 ⟨rfl, hb⟩; have sT := only_of_below (lo := g) (hi := g + 1) hb; replace q9 := q9.stp sT hgl; replace RB := RB.only sT (Nat.le_refl _) (by omega); clear sT; replace TK := TK.new hb; clear hb; have hgW := Nat.lt_of_lt_of_le hgl TK.size; have ⟨RBl, RBf, RB0, RB1, RB2, RB3⟩ := RB.all; have tok3_3 : True := trivial) | (have _q := tok3_1; go_at_call 75; refine (hM g B _ TK.cur).mono ?_; rintro e W5 hD; obtain ⟨k6, n6, t6, A6, m6, c6, rfl, q6, U, O⟩ := hD.out w1.heap.size TK.size; clear hD; replace q4 := q4.stp O hgl; replace RB := RB.only O (Nat.le_refl _) (by omega); replace TK := TK.call U O; clear U O; have hgW := Nat.lt_of_lt_of_le hgl TK.size; have tok3_2 : True := trivial) | (go_at_call 76; refine (l15Var_any g B _ TK.cur).mono ?_; rintro e W3 hD; obtain ⟨k4, n4, t4, A4, m4, c4, rfl, q4, U, O⟩ := hD.out w1.heap.size TK.size; clear hD; replace RB := RB.only O (Nat.le_refl _) (by omega); replace TK := TK.call U O; clear U O; have hgW := Nat.lt_of_lt_of_le hgl TK.size; have tok3_1 : True := trivial))
    have RQ := fun x0 x1 x2 x3 => DrT.done (q9.le (show ((100) + (K)) + (0 + 2) ≤ K + 1000 from by omega)) TK k1 hgw hs1 x0 x1 x2 x3
    refine bodyPost_ret (v := .agg #[.int .i64 (7), .int .i64 (0), .string ⟨#[]⟩, .slice (some ⟨W5.heap.size, 0, none⟩) 2 2]) (by simp [results, Try.results77, go_sem, RB0, RB1, RB2, RB3, RBl, RBf]) rfl (RQ _ _ _ _)
  · go_wp2_with (first | (have _q := tok5_1; go_at_call 27; have r5 := Rw.row1 W3.heap.size (by simp) TK.size q4; clear q4; have sT := stp_new g W3 (.cells #[.int .i64 k4, .int .i64 n4, .string t4, .slice A4 m4 c4] 29); replace RB := RB.only sT (Nat.le_refl _) (by omega); clear sT; replace TK := TK.alloc (.cells #[.int .i64 k4, .int .i64 n4, .string t4, .slice A4 m4 c4] 29); have q7 := r5.mk (8) (0) (⟨#[112]⟩) (1 + 1) (by decide); clear r5; refine (l15N_any _ _ _ _ _ _).mono ?_; rintro e W6 ⟨rfl, hb⟩; have sT := only_of_below (lo := g) (hi := g + 1) hb; replace q7 := q7.stp sT hgl; replace RB := RB.only sT (Nat.le_refl _) (by omega); clear sT; replace TK := TK.new hb; clear hb; have hgW := Nat.lt_of_lt_of_le hgl TK.size; have ⟨RBl, RBf, RB0, RB1, RB2, RB3⟩ := RB.all; have tok5_2 : True := trivial) | (go_at_call 76; refine (l15Var_any g B _ TK.cur).mono ?_; rintro e W3 hD; obtain ⟨k4, n4, t4, A4, m4, c4, rfl, q4, U, O⟩ := hD.out w1.heap.size TK.size; clear hD; replace RB := RB.only O (Nat.le_refl _) (by omega); replace TK := TK.call U O; clear U O; have hgW := Nat.lt_of_lt_of_le hgl TK.size; have tok5_1 : True := trivial))
    have RQ := fun x0 x1 x2 x3 => DrT.done (q7.le (show ((100)) + (1 + 1) ≤ K + 1000 from by omega)) TK k1 hgw hs1 x0 x1 x2 x3
    refine bodyPost_ret (v := .agg #[.int .i64 (8), .int .i64 (0), .string ⟨#[112]⟩, .slice (some ⟨W3.heap.size, 0, none⟩) 1 1]) (by simp [results, Try.results77, go_sem, RB0, RB1, RB2, RB3, RBl, RBf]) rfl (RQ _ _ _ _)
  · go_wp2_with (first | (go_at_call 76; refine (l15Var_any g B _ TK.cur).mono ?_; rintro e W3 hD; obtain ⟨k4, n4, t4, A4, m4, c4, rfl, q4, U, O⟩ := hD.out w1.heap.size TK.size; clear hD; replace RB := RB.only O (Nat.le_refl _) (by omega); replace TK := TK.call U O; clear U O; have hgW := Nat.lt_of_lt_of_le hgl TK.size; have ⟨RBl, RBf, RB0, RB1, RB2, RB3⟩ := RB.all; have tok6_1 : True := trivial))
    have RQ := fun x0 x1 x2 x3 => DrT.done (q4.le (show 100 ≤ K + 1000 from by omega)) TK k1 hgw hs1 x0 x1 x2 x3
    refine bodyPost_ret (v := .agg #[.int .i64 k4, .int .i64 n4, .string t4, .slice A4 m4 c4]) (by simp [results, Try.results77, go_sem, RB0, RB1, RB2, RB3, RBl, RBf]) rfl (RQ _ _ _ _)
  · go_wp2_with (first | (go_at_call 76; refine (l15Var_any g B _ TK.cur).mono ?_; rintro e W3 hD; obtain ⟨k4, n4, t4, A4, m4, c4, rfl, q4, U, O⟩ := hD.out w1.heap.size TK.size; clear hD; replace RB := RB.only O (Nat.le_refl _) (by omega); replace TK := TK.call U O; clear U O; have hgW := Nat.lt_of_lt_of_le hgl TK.size; have ⟨RBl, RBf, RB0, RB1, RB2, RB3⟩ := RB.all; have tok6_1 : True := trivial))
    have RQ := fun x0 x1 x2 x3 => DrT.done (q4.le (show 100 ≤ K + 1000 from by omega)) TK k1 hgw hs1 x0 x1 x2 x3
    refine bodyPost_ret (v := .agg #[.int .i64 k4, .int .i64 n4, .string t4, .slice A4 m4 c4]) (by simp [results, Try.results77, go_sem, RB0, RB1, RB2, RB3, RBl, RBf]) rfl (RQ _ _ _ _)
  · go_wp2_with (first | (go_at_call 76; refine (l15Var_any g B _ TK.cur).mono ?_; rintro e W3 hD; obtain ⟨k4, n4, t4, A4, m4, c4, rfl, q4, U, O⟩ := hD.out w1.heap.size TK.size; clear hD; replace RB := RB.only O (Nat.le_refl _) (by omega); replace TK := TK.call U O; clear U O; have hgW := Nat.lt_of_lt_of_le hgl TK.size; have ⟨RBl, RBf, RB0, RB1, RB2, RB3⟩ := RB.all; have tok6_1 : True := trivial))
    have RQ := fun x0 x1 x2 x3 => DrT.done (q4.le (show 100 ≤ K + 1000 from by omega)) TK k1 hgw hs1 x0 x1 x2 x3
    refine bodyPost_ret (v := .agg #[.int .i64 k4, .int .i64 n4, .string t4, .slice A4 m4 c4]) (by simp [results, Try.results77, go_sem, RB0, RB1, RB2, RB3, RBl, RBf]) rfl (RQ _ _ _ _)
end Go.Proofs.Ytgejkfcemlkclaa
namespace Go.Proofs.Ytgejkfcemlkclaa
set_option maxHeartbeats 40000000
open Go.ChangeShapes Go.WideShapes Go.ChangeAt Go.RowKit Go.Deep Go.Joins
open Go.ChangeMaps (open_string shut_string)
set_option maxRecDepth 100000
theorem Trk.grow {g B : Nat} {w0 X X' : World} {row : Option Nat} (h : Trk g B w0 X) (hg : X.grownBy X' row) (hr : ∀ b, row = some b → w0.heap.size ≤ b) (hlt : g < w0.heap.size) : Trk g B w0 X' := by
  have hb : Below w0.heap.size X X' := ⟨hg.os, hg.tape, hg.output, hg.size, fun k hk => hg.block k (Nat.lt_of_lt_of_le hk h.size) (fun e => by have := hr k e.symm; omega)⟩
  refine ⟨?_, h.only.trans (only_of_below hb)⟩
  obtain ⟨A, n, c, i, x, h1, h2, h3, h4, h5⟩ := h.cur
  exact ⟨A, n, c, i, x, (hb.block g hlt).trans h1, h2, h3.keep fun b o hB => (bcell hb).1 _ _ (by omega), h4, h5⟩
theorem Trk.set {g B : Nat} {w0 X : World} (h : Trk g B w0 X) {p : Addr} (hp : w0.heap.size ≤ p.block) (hlt : g < w0.heap.size) (u : Value) : Trk g B w0 (X.setCell p u) :=
  ⟨h.cur.far (by omega) (by have := h.cur.le; omega) u, h.only.newset hp u⟩
theorem GRl.far {X : World} {lo hi : Nat} {A : Option Addr} {m c K : Nat} {vs : List Value} (h : GRl X lo hi A m c K vs) {p : Addr} (hp : p.block < lo) (u : Value) : GRl (X.setCell p u) lo hi A m c K vs :=
  h.keep (fun b h1 h2 => Below.heap_setCell _ _ _ _ (by omega)) (by simp [World.setCell])
theorem one4 (k n : Int) (t : ByteArray) (A : Option Addr) (m c : Nat) : ∀ u ∈ [Value.int .i64 k, .int .i64 n, .string t, .slice A m c], u.oneCell' = true := by
  intro u hu
  simp only [List.mem_cons, List.not_mem_nil, or_false] at hu
  rcases hu with rfl | rfl | rfl | rfl <;> rfl
def DoI (deep : Int) (K : Nat) : Prop := ∀ (lp gn : Bool) (g B : Nat) (w : World), Cur w g B → Calls Try.prog 29 #[.pointer (some ⟨g, 0, none⟩), .int .i64 deep, .bool lp, .bool gn] w (DrT g B K w)
def StpI (deep : Int) (K : Nat) : Prop := ∀ (lp gn : Bool) (g B : Nat) (w : World), Cur w g B → Calls Try.prog 47 #[.pointer (some ⟨g, 0, none⟩), .int .i64 deep, .bool lp, .bool gn] w (DrT g B K w)
theorem do_of (deep : Int) (KS : Nat) (hS : StpI deep KS) : DoI deep (3 * KS + 1000) := by
  intro lp gn g B w hc
  have hgw := hc.lt
  have k1 := (Below.refl w.heap.size w).alloc (Nat.le_refl _) (.cells #[.int .i64 0, .int .i64 0, .string ⟨#[]⟩, .slice none 0 0] 29)
  have TK := Trk.start (hc.alloc (.cells #[.int .i64 0, .int .i64 0, .string ⟨#[]⟩, .slice none 0 0] 29))
  have RB := Blk.new w 29 #[.int .i64 0, .int .i64 0, .string ⟨#[]⟩, .slice none 0 0]
  clear hc
  go_enter Try.func29, Try.ntmps29
  go_upto_region 1 with fail
  generalize hw1 : w.alloc (.cells #[.int .i64 0, .int .i64 0, .string ⟨#[]⟩, .slice none 0 0] 29) = w1 at *
  have hs1 : w.heap.size < w1.heap.size := RB.lt
  have hgl : g < w1.heap.size := by omega
  go_upto_region 2 with (first | (go_at_call 27; have q2 := (Rw.no (X := w1) (lo := w1.heap.size)).mk (48) (0) (⟨#[]⟩) (0 + 0) (by decide); refine (l15N_any _ _ _ _ _ _).mono ?_; rintro e W1 ⟨rfl, hb⟩; have sT := only_of_below (lo := g) (hi := g + 1) hb; replace q2 := q2.stp sT hgl; replace RB := RB.only sT (Nat.le_refl _) (by omega); clear sT; replace TK := TK.new hb; clear hb; have hgW := Nat.lt_of_lt_of_le hgl TK.size; have tok1_1 : True := trivial))
  have hbo := TK.size
  have sT := stp_new g W1 (.cells #[.int .i64 (48), .int .i64 (0), .string ⟨#[]⟩, .slice none 0 0] 29)
  replace q2 := q2.stp sT hgl
  replace RB := RB.only sT (Nat.le_refl _) (by omega)
  clear sT
  replace TK := TK.alloc (.cells #[.int .i64 (48), .int .i64 (0), .string ⟨#[]⟩, .slice none 0 0] 29)
  have hBXo : g < W1.heap.size := by omega
  have BXo := Blk.new' W1 29 #[.int .i64 (48), .int .i64 (0), .string ⟨#[]⟩, .slice none 0 0] W1.heap.size (by simp)
  go_wp2_with (first | (go_at_call 30; refine (l1Below_any g B 3 (by decide) (by decide) _ TK.cur).mono ?_; rintro e W3 ⟨⟨x4, hx4, rfl⟩, U, O⟩; replace q2 := q2.stp O hgl; replace RB := RB.only O (Nat.le_refl _) (by omega); replace BXo := BXo.only O (Nat.le_refl _) (by omega); replace TK := TK.call U O; clear U O; have hgW := Nat.lt_of_lt_of_le hgl TK.size; have tok2_1 : True := trivial))
  generalize hbb : W1.heap.size = bo at *
  go_loopw [10] (fun i wr => ∃ (m j hi : Nat) (A : Option Addr) (c : Nat) (vs : List Value), m + j ≤ 3 ∧ i = .int .i64 j ∧ GRl wr (bo + 1) hi A m c (m * KS) vs ∧ Blk wr bo 29 #[.int .i64 48, .int .i64 0, .string ⟨#[]⟩, .slice A m c] ∧ Blk wr w.heap.size 29 #[.int .i64 0, .int .i64 0, .string ⟨#[]⟩, .slice none 0 0] ∧ Trk g B w1 wr) (fun i _ => (intOf i).toNat)
  case atStart => exact ⟨0, 1 + x4, _, none, 0, [], by omega, by go_num, by rw [Nat.zero_mul]; exact GRl.nil _ _, BXo, RB, TK⟩
  case round =>
    clear TK RB BXo
    obtain ⟨m, j, hi, A, c, vs, hmj, rfl, G, BO, RB, TK⟩ := hrel
    have hBl := BO.lt
    have BO0 := BO.cell 0
    have BO1 := BO.cell 1
    have BO2 := BO.cell 2
    have BO3 := BO.cell 3
    have hmK : m * KS ≤ 3 * KS := Nat.mul_le_mul_right KS (by omega)
    cases j with
    | zero =>
      have ⟨RBl, RBf, RB0, RB1, RB2, RB3⟩ := RB.all
      go_wp2_with fail
      have RQ := fun x0 x1 x2 x3 => DrT.done ((G.row.mk 48 0 ⟨#[]⟩ 3 (by have : (⟨#[]⟩ : ByteArray).size = 0 := rfl; omega)).le (show m * KS + 3 ≤ 3 * KS + 1000 from by omega)) TK k1 hgw (by omega) x0 x1 x2 x3
      refine bodyPost_ret (v := .agg #[.int .i64 48, .int .i64 0, .string ⟨#[]⟩, .slice A m c]) (by simp [results, Try.results29, go_sem, RB0, RB1, RB2, RB3, RBl, RBf]) rfl (RQ _ _ _ _)
    | succ j =>
      go_wp2_with fail
      have TQ0 : Trk g B wr wr := Trk.start TK.cur
      have hwr := TK.size
      have hgr : g < wr.heap.size := by omega
      have TQ := TQ0.drew
      refine lateStart (S := (fun w_ => Trk g B wr w_)) [8, 9, 10] (by kernel_rfl) ?_ (fun hHeld => ?_)
      · (try dsimp only)
        (exact TQ)
      generalize hYd : World.drew wr = Yd at *
      (refine lgW (i := 0) (v := ?_) (by kernel_rfl) rfl (fun _ _ _ h => h) (by rfl) ?_ hHeld ?_; rotate_left; (focus (intro w_; go_simp; (try with_reducible rfl); done)); try simp only [aS])
      (refine lgt (i := 1) (v := ?_) rfl ?_ hHeld ?_; rotate_left; (focus (intro w_ hSw; (try dsimp only at hSw); have yb := hSw.blk BO (by omega); have yb3 := yb.cell 3; have ybl := yb.lt; go_simp; (try with_reducible rfl); done)); try simp only [aS])
      iterate 4 (refine lgN (v := ?_) rfl (by kernel_rfl) rfl (fun _ _ _ h => h) (by rfl) ?_ hHeld ?_; rotate_left; (focus (intro w_; go_simp; (try with_reducible rfl); done)); try simp only [aS])
      refine lateOne (i := 6) (by kernel_rfl) ?_
      refine lateOp (i := 6) rfl (by rfl) (fun K hK => ?_)
      go_simp
      go_at_call 47; refine (hS lp gn g B _ TQ.cur).mono ?_; rintro e W6 hD; obtain ⟨k1, n1, t1, A1, m1, c1, rfl, q1, U, O⟩ := hD.out wr.heap.size TQ.size; clear hD; replace TQ := TQ.call U O; clear U O; have hS_ := TQ
      clear hHeld
      refine hK.out _ _ hS_ (fun hHeld => ?_)
      clear hK K hS_
      try simp only [aS]
      refine lateOne (i := 7) (by kernel_rfl) ?_
      refine lateOp (i := 7) rfl (by rfl) (fun K hK => ?_)
      go_simp
      replace q1 := q1.stp (stp_new g W6 (.cells #[.int .i64 k1, .int .i64 n1, .string t1, .slice A1 m1 c1] 29)) hgr; replace TQ := TQ.alloc (.cells #[.int .i64 k1, .int .i64 n1, .string t1, .slice A1 m1 c1] 29); have hS_ := TQ
      clear hHeld
      refine hK.out _ _ hS_ (fun hHeld => ?_)
      clear hK K hS_
      try simp only [aS]
      refine lateOne (i := 8) (by kernel_rfl) ?_
      refine lateLast (i := 8) rfl (by kernel_rfl) (by rfl) (fun K hK => ?_)
      have GW := G.stp TQ.only (by omega)
      have hw6 := TQ.size
      refine wp_append_rd _ (.tmp 20) (.tmp 26) _ rfl (bo + 1) 29 _ 4 56 Try.underlying27 infoNodeC rfl (by decide) (.slice A m c) m vs rfl GW.own (W6.heap.size + 1) _ 1 1 [.int .i64 k1, .int .i64 n1, .string t1, .slice A1 m1 c1] rfl (rd_new W6 29 4 [.int .i64 k1, .int .i64 n1, .string t1, .slice A1 m1 c1] rfl) (one4 _ _ _ _ _ _) (by unfold maxLen; omega) (by omega) (by omega) ?_
      intro v7 w7 own7 hg7 hat7
      obtain ⟨A7, c7, rfl, G7⟩ := GW.push q1 (by omega) (fun b hb => Nat.lt_of_lt_of_le (G.lt b hb).2 G.hi_le) own7 hg7 hat7
      have TK7 := (TK.next TQ).grow hg7 (fun b hb => by have := (G.lt b hb).1; omega) hgl
      have BO7 := (hg7.block bo (TQ.blk BO (by omega)).lt (fun e => by have := (G.lt bo e.symm).1; omega)).trans (TQ.blk BO (by omega))
      have RB7 := (hg7.block w.heap.size (TQ.blk RB (by omega)).lt (fun e => by have := (G.lt _ e.symm).1; omega)).trans (TQ.blk RB (by omega))
      refine hK.out _ _ ?_
      clear hK K
      try simp only [aS]
      refine lateOne (i := 9) (by kernel_rfl) ?_
      refine lateLast (i := 9) rfl (by kernel_rfl) (by rfl) (fun K hK => ?_)
      go_simp
      refine hK.out _ _ ?_
      clear hK K
      try simp only [aS]
      refine lateOne (i := 10) (by kernel_rfl) ?_
      refine lateLast (i := 10) rfl (by kernel_rfl) (by rfl) (fun K hK => ?_)
      have o_l := Blk.lt BO7; have o_f := fun i => Blk.frozen BO7 i; have o3 := Blk.cell BO7 3
      go_simp
      refine hK.out _ _ ?_
      clear hK K
      try simp only [aS]
      refine lateDone (by kernel_rfl) ?_ _
      go_wp2_with fail
      go_roundw
      case rel => exact ⟨m + 1, j, _, A7, c7, _, by omega, by go_num, by rw [Nat.succ_mul]; exact G7.far (p := ⟨bo, 3, none⟩) (by show bo < bo + 1; omega) _, by simpa using Blk.set_ BO7 3 (.slice A7 (m + 1) c7), Blk.far RB7 (p := ⟨bo, 3, none⟩) (by show w.heap.size ≠ bo; omega) _, TK7.set (p := ⟨bo, 3, none⟩) hbo hgl _⟩
      case measure => simp [intOf]
end Go.Proofs.Ytgejkfcemlkclaa
