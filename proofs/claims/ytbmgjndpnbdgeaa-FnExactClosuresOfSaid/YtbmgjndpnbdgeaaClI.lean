/-
  ClosuresOf of the program: copies of the closures, in memory of its own. Conditions: none.
-/
import Derived.Test.YtbmgjndpnbdgeaaClP
import Derived.Deep.CutRange
import Derived.Deep.CutBlock
namespace Go.Proofs.Ytbmgjndpnbdgeaa
open Go.ChangeShapes Go.WideShapes Go.ChangeAt Go.RowKit Go.Deep Go.Joins
open Go.ChangeMaps (open_string shut_string)
set_option linter.unusedVariables false
set_option linter.unusedSimpArgs false
set_option maxRecDepth 100000
theorem own_emptyG (w : World) (g : Nat) (e : TypeId) (k : Nat) (hg : w.heap.size = g) : (w.alloc (.cells #[] e)).ownsRow g e k (.slice (some ⟨g, 0, none⟩) 0 0) 0 [] := by
  subst hg
  exact own_empty w e k
theorem nodes_onecell {w : World} {F : List Nat} {us : List Value} (l : List FNode) (h : OwnL w (FNode.flat l) F us) : ∀ u, u ∈ us → u.oneCell' = true := by
  refine OwnL.onecell _ _ _ h fun y hy u hu => ?_
  obtain ⟨x, _, hx⟩ := List.mem_flatMap.1 hy
  obtain ⟨z0, z1, z2, z3⟩ := x
  rw [FNode.c_eq] at hx
  simp only [List.mem_cons, List.not_mem_nil, or_false] at hx
  rcases hx with rfl | rfl | rfl | rfl <;> (first | (injection hu with hu; subst hu; rfl) | cases hu)
/-- Nodes of one's own, at world X, since world w. -/
abbrev NdO (lo : Nat) (X : World) (A : Option Addr) (c : Nat) (l : List FNode) : Prop := OwnI X lo X.heap.size [.s 38 4 l.length (FNode.flat l)] [.slice A l.length c]
/-- What append leaves of two rows. -/
theorem NdO.push {lo : Nat} {X Y Z : World} {A : Option Addr} {c : Nat} {l m : List FNode} {us us2 : List Value} {G G2 : List Nat} {v' : Value}
    (hol : OwnL Y (FNode.flat l) G us) (hG : G.Nodup) (hGb : ∀ b, b ∈ G → lo ≤ b ∧ b < X.heap.size) (hGv : ∀ g, (Value.slice A l.length c).ownBlock = some g → g ∉ G ∧ lo ≤ g ∧ g < X.heap.size)
    (hol2 : OwnL Y (FNode.flat m) G2 us2) (hG2 : G2.Nodup) (hGb2 : ∀ b, b ∈ G2 → X.heap.size ≤ b)
    (hl : lo ≤ X.heap.size)
    (hown : Z.ownsRow lo 38 4 v' (l.length + m.length) (us ++ us2)) (hg : Y.grownBy Z (Value.slice A l.length c).ownBlock) (hat : v'.ownBlock = (Value.slice A l.length c).ownBlock ∨ v'.ownBlock = some Y.heap.size) :
    ∃ A' c', v' = .slice A' (l ++ m).length c' ∧ NdO lo Z A' c' (l ++ m) := by
  obtain ⟨A', c', rfl⟩ := own_form hown
  have hp := OwnI.pushed hown hg hat hol hol2 hG hG2 (fun b hb1 hb2 => by have := hGb b hb1; have := hGb2 b hb2; omega) (fun b hb1 => (hGb b hb1).1) (fun b hb1 => by have := hGb2 b hb1; omega) (fun g hg => ⟨(hGv g hg).1, fun h2 => by have := (hGv g hg).2; have := hGb2 g h2; omega⟩)
  have e : FNode.flat (l ++ m) = FNode.flat l ++ FNode.flat m := List.flatMap_append
  refine ⟨A', c', by rw [List.length_append], ?_⟩
  unfold NdO
  rw [e, List.length_append]
  exact hp
def ClI (x : FNode) : Prop := ∀ (us : List Value) (w : World) (B : Nat), B ≤ w.heap.size → RdVs w B x.c us → Calls Try.prog 17 #[.agg us.toArray] w fun e w' => ∃ A c, e = .returned (.slice A (clN x).length c) ∧ NdO w.heap.size w' A c (clN x) ∧ Below w.heap.size w w'
set_option maxHeartbeats 4000000 in
theorem clI_of (z0 z1 : Int) (z2 : ByteArray) (z3 : List FNode) (hw : (FNode.mk z0 z1 z2 z3).wt ≤ 1048576) (h3 : ∀ x, x ∈ z3 → ClI x) : ClI ⟨z0, z1, z2, z3⟩ := by
  intro us w B hB0 hr
  have hcp := cpNode_any ⟨z0, z1, z2, z3⟩ (by omega)
  have hR := hr
  rw [FNode.c_eq] at hr
  obtain ⟨us0, rfl, hr_0⟩ := hr.unv
  obtain ⟨us1, rfl, hr_1⟩ := hr_0.unv
  obtain ⟨us2, rfl, hr_2⟩ := hr_1.unv
  obtain ⟨A3, c3, us3, rfl, r3, hr_3⟩ := hr_2.uns
  obtain rfl := hr_3.un0
  have R3 := Lib.hid r3
  have H3 := Lib.hid h3
  clear r3 h3 hr_0 hr_1 hr_2 hr_3
  have RX := Lib.hid hR
  have CP := Lib.hid hcp
  rw [FNode.wt_eq] at hw
  clear hcp hR hr
  have hzl : z3.length ≤ 1048576 := by omega
  have hcll := clL_len z3
  obtain ⟨hd, hhd⟩ : ∃ hd, hd = (if (z0 == 23) = true then [(⟨z0, z1, z2, z3⟩ : FNode)] else []) := ⟨_, rfl⟩
  have hdl : hd.length ≤ 1 := by rw [hhd]; split <;> simp
  have HD := Lib.hid hhd
  have HCL := Lib.hid (show clN ⟨z0, z1, z2, z3⟩ = hd ++ clL z3 from by rw [clN, hhd])
  clear hhd
  go_enter Try.func17, Try.ntmps17
  go_upto_if 9 with fail
  have b0 : Blk ((w.alloc (.cells #[.int .i64 z0, .int .i64 z1, .string z2, .slice A3 z3.length c3] 38)).alloc (.cells #[] 38)) w.heap.size 38 #[.int .i64 z0, .int .i64 z1, .string z2, .slice A3 z3.length c3] := (Blk.new _ _ _).alloc _
  have o0 : NdO w.heap.size ((w.alloc (.cells #[.int .i64 z0, .int .i64 z1, .string z2, .slice A3 z3.length c3] 38)).alloc (.cells #[] 38)) (some ⟨w.heap.size + 1, 0, none⟩) 0 [] :=
    OwnI.mk (lo' := w.heap.size) (hi' := w.heap.size) (own_emptyG (w.alloc (.cells #[.int .i64 z0, .int .i64 z1, .string z2, .slice A3 z3.length c3] 38)) (w.heap.size + 1) _ 4 (by simp)) (OwnI.nil _ _ _) (fun g hg => by have e9 : w.heap.size + 1 = g := Option.some.inj hg; simp; omega) (Nat.le_refl _) (by simp; omega)
  have l0 : Below w.heap.size w ((w.alloc (.cells #[.int .i64 z0, .int .i64 z1, .string z2, .slice A3 z3.length c3] 38)).alloc (.cells #[] 38)) := ((Below.refl _ _).alloc (Nat.le_refl _) _).alloc (by simp) _
  generalize (w.alloc (.cells #[.int .i64 z0, .int .i64 z1, .string z2, .slice A3 z3.length c3] 38)).alloc (.cells #[] 38) = X0 at *
  have hs0 := l0.size
  have k0 : X0.cell? ⟨w.heap.size, 0, none⟩ = some (.int .i64 z0) := b0.cell 0
  have k1 : X0.cell? ⟨w.heap.size, 1, none⟩ = some (.int .i64 z1) := b0.cell 1
  have k2 : X0.cell? ⟨w.heap.size, 2, none⟩ = some (.string z2) := b0.cell 2
  have k3 : X0.cell? ⟨w.heap.size, 3, none⟩ = some (.slice A3 z3.length c3) := b0.cell 3
  have B0 := Lib.hid b0
  have O0 := Lib.hid o0
  have L0 := Lib.hid l0
  clear b0 o0 l0
  go_cut [3] from 9 to 14 (fun v wx => ∃ A1 c1, v = .slice A1 hd.length c1 ∧ NdO w.heap.size wx A1 c1 hd ∧ Below w.heap.size w wx ∧ Blk wx w.heap.size 38 #[.int .i64 z0, .int .i64 z1, .string z2, .slice A3 z3.length c3])
  case first =>
    cases hz : (z0 == 23) with
    | false =>
      have h23 : ¬ z0 = 23 := by simpa using hz
      have HN : hd = [] := by rw [HD.out, hz]; rfl
      subst HN
      go_wp2_with fail
      go_meet
      exact ⟨_, _, rfl, O0.out, L0.out, B0.out⟩
    | true =>
      have h23 : z0 = 23 := by simpa using hz
      have HN := Lib.hid (show hd = [(⟨z0, z1, z2, z3⟩ : FNode)] from by rw [HD.out, hz]; rfl)
      have hz' := Lib.hid h23
      clear h23
      go_wp2_with fail
      refine (CP.out [.int .i64 z0, .int .i64 z1, .string z2, .slice A3 z3.length c3] X0 w.heap.size hs0 (RX.out.on L0.out hB0 hB0)).mono ?_
      rintro e w2 ⟨us2, rfl, own2, hb2⟩
      have hs2 := hb2.size
      have B2 := Lib.hid (B0.out.below hb2 (Nat.le_refl _))
      have L2 := Lib.hid (L0.out.trans (hb2.mono hs0))
      have hv := own2.vs
      rw [FNode.c_eq] at hv
      obtain ⟨us2_0, rfl, hv_0⟩ := hv.unv
      obtain ⟨us2_1, rfl, hv_1⟩ := hv_0.unv
      obtain ⟨us2_2, rfl, hv_2⟩ := hv_1.unv
      obtain ⟨D3, d3, us2_3, rfl, _, hv_3⟩ := hv_2.uns
      obtain rfl := hv_3.un0
      clear hv hv_0 hv_1 hv_2 hv_3
      obtain ⟨us, G, ho, hol, hG, hGb, hGv⟩ := (O0.out.below hb2 (Nat.le_refl _)).row
      obtain ⟨G2, g1, g2, g3⟩ := own2
      have HO := Lib.hid (World.ownsRow.alloc ho (.cells #[.int .i64 z0, .int .i64 z1, .string z2, .slice D3 z3.length d3] 38))
      have HN2 := Lib.hid (rd_new w2 38 4 [.int .i64 z0, .int .i64 z1, .string z2, .slice D3 z3.length d3] rfl)
      have H1 := Lib.hid (node_onecell _ g1)
      have HG1 := Lib.hid (OwnL.keep _ _ _ hol (w' := w2.alloc (.cells #[.int .i64 z0, .int .i64 z1, .string z2, .slice D3 z3.length d3] 38)) fun g hg => Below.heap_alloc w2 _ g (OwnL.lt _ _ _ hol g hg))
      have HG2 := Lib.hid (show OwnL (w2.alloc (.cells #[.int .i64 z0, .int .i64 z1, .string z2, .slice D3 z3.length d3] 38)) (FNode.flat [(⟨z0, z1, z2, z3⟩ : FNode)]) G2 _ from by
        have e : FNode.flat [(⟨z0, z1, z2, z3⟩ : FNode)] = FNode.c ⟨z0, z1, z2, z3⟩ := by simp [FNode.flat]
        rw [e]
        exact OwnL.keep _ _ _ g1 fun g hg => Below.heap_alloc w2 _ g (OwnL.lt _ _ _ g1 g hg))
      have HV := Lib.hid hGv
      have HB := Lib.hid hGb
      have HB2 := Lib.hid g3
      have HD1 := Lib.hid hG
      have HD2 := Lib.hid g2
      clear ho hol g1 hGv hGb g3 hG g2 hb2 k0 k1 k2 k3
      go_wp2_with (at_builtin; go_must (refine wpList_append_rd _ rfl _ _ _ rfl w.heap.size _ _ _ 56 Try.underlying26 infoNodeC rfl (by omega) (.slice (some ⟨w.heap.size + 1, 0, none⟩) 0 0) 0 us rfl HO.out (w2.heap.size + 1) _ 1 1 [.int .i64 z0, .int .i64 z1, .string z2, .slice D3 z3.length d3] rfl HN2.out H1.out (by unfold maxLen; omega) (by omega) (by simp; omega) ?_); intro v1 w1 hown1 hg1 hat1)
      go_meet
      obtain ⟨A4, c4, e4, N4⟩ := NdO.push (l := []) (m := [(⟨z0, z1, z2, z3⟩ : FNode)]) HG1.out HD1.out HB.out HV.out HG2.out HD2.out (fun b hb => (HB2.out b hb).1) hs0 hown1 hg1 hat1
      rw [HN.out, e4]
      refine ⟨A4, c4, rfl, N4, Below.grownI (L2.out.alloc L2.out.size _) hg1 (fun g hg => (HV.out g hg).2.1) (by simp; omega), ?_⟩
      exact (B2.out.alloc _).bgrown hg1 (fun e => by have e9 : w.heap.size = w.heap.size + 1 := Option.some.inj e; omega)
  case rest =>
    obtain ⟨A1, c1, rfl, N1, L1, B1⟩ := hcut
    have k3' : wc.cell? ⟨w.heap.size, 3, none⟩ = some (.slice A3 z3.length c3) := B1.cell 3
    have NN1 := Lib.hid N1
    have LL1 := Lib.hid L1
    clear k0 k1 k2 k3 N1 L1 B1 O0 L0 B0 hs0
    go_wp2_with fail
    go_loopw [3, 18] (fun v i wr => ∃ (k : Nat) (A' : Option Addr) (c' : Nat), k ≤ z3.length ∧ i = .int .i64 k ∧ v = .slice A' (hd ++ clL (z3.take k)).length c' ∧ NdO w.heap.size wr A' c' (hd ++ clL (z3.take k)) ∧ Below w.heap.size w wr) (fun _ i _ => z3.length - (intOf i).toNat)
    case atStart => exact ⟨0, A1, c1, Nat.zero_le _, rfl, by rw [List.take_zero, clL, List.append_nil], by rw [List.take_zero, clL, List.append_nil]; exact NN1.out, LL1.out⟩
    case round =>
      clear k3'
      obtain ⟨k, A', c', hk, rfl, rfl, hown, hb⟩ := hrel
      have HOWN := Lib.hid hown
      have hbs := hb.size
      clear hown
      by_cases hlt : k < z3.length
      · obtain ⟨x, hx⟩ : ∃ x, z3[k]? = some x := ⟨_, List.getElem?_eq_getElem hlt⟩
        obtain ⟨bc, offc, rfl, hblc, hcc⟩ := RdC.at_ FNode.len R3.out hx
        have HP := Lib.hid (H3.out x (List.mem_of_getElem? hx))
        have hxl := clN_len x
        have htk := FNode.wts_take z3 k x hx
        have htw2 := FNode.wts_le z3 (k + 1)
        have hcl2 := clL_len (z3.take k)
        have htl := List.length_take_le k z3
        have HX := Lib.hid (clL_take z3 k x hx)
        clear hx
        obtain ⟨y0, y1, y2, y3⟩ := x
        rw [FNode.c_eq] at hcc
        obtain ⟨u0, e0, q0⟩ := hcc 0 _ rfl
        obtain rfl := q0.val
        obtain ⟨u1, e1, q1⟩ := hcc 1 _ rfl
        obtain rfl := q1.val
        obtain ⟨u2, e2, q2⟩ := hcc 2 _ rfl
        obtain rfl := q2.val
        obtain ⟨u3, e3, q3⟩ := hcc 3 _ rfl
        obtain ⟨D, d, rfl⟩ := q3.form
        have Q3 := Lib.hid q3
        have k0 : wr.cell? ⟨bc, offc + k * 4, none⟩ = some (.int .i64 y0) := (hb.cell (p := ⟨bc, _, none⟩) (by show bc < _; omega)).trans (by simpa using e0)
        have k1 : wr.cell? ⟨bc, offc + k * 4 + 1, none⟩ = some (.int .i64 y1) := (hb.cell (p := ⟨bc, _, none⟩) (by show bc < _; omega)).trans (by simpa using e1)
        have k2 : wr.cell? ⟨bc, offc + k * 4 + 2, none⟩ = some (.string y2) := (hb.cell (p := ⟨bc, _, none⟩) (by show bc < _; omega)).trans (by simpa using e2)
        have k3 : wr.cell? ⟨bc, offc + k * 4 + 3, none⟩ = some (.slice D y3.length d) := (hb.cell (p := ⟨bc, _, none⟩) (by show bc < _; omega)).trans (by simpa using e3)
        clear hcc e0 e1 e2 e3 q0 q1 q2 q3
        generalize hac : hd ++ clL (z3.take k) = ac at *
        have hacl : ac.length ≤ 2097152 := by rw [← hac, List.length_append]; omega
        have HAC := Lib.hid hac
        generalize hnc : clN ⟨y0, y1, y2, y3⟩ = nc at *
        have HNC := Lib.hid hnc
        clear hac hnc hcl2
        go_wp2_with fail
        refine calls_worldD _ (fun X => NdO w.heap.size X A' c' ac ∧ Below w.heap.size w X ∧ wr.heap.size ≤ X.heap.size) ⟨(HOWN.out.alloc _).wide (Nat.le_refl _) (by simp), hb.alloc hbs _, by simp⟩ ?_
        clear HOWN hb k0 k1 k2 k3
        rintro X1 ⟨hown, hb, hs1⟩
        refine (HP.out [.int .i64 y0, .int .i64 y1, .string y2, .slice D y3.length d] _ w.heap.size (by omega) (by rw [FNode.c_eq]; exact RdVs.cons (by unfold RdC; rfl) (RdVs.cons (by unfold RdC; rfl) (RdVs.cons (by unfold RdC; rfl) (RdVs.cons ((Q3.out.up hB0).below hb (Nat.le_refl _)) (RdVs.nil _ _)))))).mono ?_
        rw [HNC.out]
        rintro e w2 ⟨D2, d2, rfl, own2, hb2⟩
        have hs2 : X1.heap.size ≤ w2.heap.size := hb2.size
        have hb3 := hb.trans (hb2.mono (by omega))
        obtain ⟨us, G, ho, hol, hG, hGb, hGv⟩ := (hown.below hb2 (Nat.le_refl _)).row
        obtain ⟨us2, G2, ho2, hol2, hG2, hGb2, hGv2⟩ := own2.row
        have HO := Lib.hid ho
        have HN2 := Lib.hid (rd_of_own ho2)
        have H1 := Lib.hid (nodes_onecell _ hol2)
        have HG1 := Lib.hid hol
        have HG2 := Lib.hid hol2
        have HV := Lib.hid hGv
        have HB := Lib.hid hGb
        have HB2 := Lib.hid hGb2
        have HD1 := Lib.hid hG
        have HD2 := Lib.hid hG2
        have hbw : w.heap.size ≤ w2.heap.size := by omega
        have hX1 : w.heap.size ≤ X1.heap.size := by omega
        clear ho hol ho2 hol2 hGv hGb hGv2 hGb2 hG hG2 hown hb2
        go_wp2_with (at_builtin; go_must (refine wpList_append_rd _ rfl _ _ _ rfl w.heap.size _ _ _ 56 Try.underlying26 infoNodeC rfl (by omega) (.slice A' ac.length c') ac.length us rfl HO.out w2.heap.size _ nc.length d2 us2 rfl HN2.out H1.out (by unfold maxLen; omega) (by omega) (by omega) ?_); intro v1 w1 hown1 hg1 hat1)
        obtain ⟨A4, c4, rfl, N4⟩ := NdO.push (l := ac) (m := nc) HG1.out HD1.out HB.out HV.out HG2.out HD2.out (fun b hb => (HB2.out b hb).1) hX1 hown1 hg1 hat1
        go_roundw
        case rel =>
          have e : hd ++ clL (z3.take (k + 1)) = ac ++ nc := by rw [HX.out, ← List.append_assoc, HAC.out]
          refine ⟨k + 1, A4, c4, by omega, by go_num, by rw [e], by rw [e]; exact N4, Below.grownI hb3 hg1 (fun g hg => (HV.out g hg).2.1) hbw⟩
        case measure => simp [intOf]; omega
      · obtain rfl : k = z3.length := by omega
        clear hlt
        go_wp2_with fail
        go_ret
        have ho := HOWN.out
        rw [List.take_length] at ho ⊢
        rw [HCL.out]
        exact ⟨_, _, rfl, ho, hb⟩
mutual
theorem clI_any : ∀ x : FNode, x.wt ≤ 1048576 → ClI x
  | .mk a0 a1 a2 a3, hw => clI_of a0 a1 a2 a3 hw (clI_all a3 (by rw [FNode.wt_eq] at hw; omega))
theorem clI_all : ∀ (l : List FNode), l.length + FNode.wts l ≤ 1048576 → ∀ x, x ∈ l → ClI x
  | [], _, x, hx => by cases hx
  | y :: r, hw, x, hx => by
    rw [FNode.wts, List.length_cons] at hw
    rcases List.mem_cons.1 hx with e | hx
    · rw [e]
      exact clI_any y (by omega)
    · exact clI_all r (by omega) x hx
end
end Go.Proofs.Ytbmgjndpnbdgeaa
