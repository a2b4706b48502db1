/-
  The law about Echo returns true for all arguments. Conditions: none.
-/
import Derived.Test.YtikebdhpgmejpaaOutK
namespace Go.Proofs.Ytikebdhpgmejpaa
open Go.ChangeShapes Go.WideShapes Go.ChangeAt Go.RowKit Go.Deep Go.Joins
open Go.ChangeMaps (open_string shut_string)
set_option linter.unusedVariables false
set_option linter.unusedSimpArgs false
set_option maxRecDepth 100000
theorem echo_small {o : Out} (s : ByteArray) (h : o.small) : (echoF o s).small := by
  unfold echoF echoY echoL
  split
  · split
    · exact h
    · refine ⟨h.1, ?_⟩
      show (match o.bufs[o.bufs.length - 1]? with | none => o.bufs | some x => o.bufs.set (o.bufs.length - 1) ⟨x.a0, x.a1 ++ s⟩).length ≤ 1048576
      split
      · exact h.2
      · rw [List.length_set]; exact h.2
  · exact h
theorem tot_wt (o : Out) : totF o ≤ o.wt := by unfold totF Out.wt; omega
set_option maxHeartbeats 4000000 in
theorem fnExactEcho_walk {H : Type} {enc : TypeId × Value → H} (W : World) (base : Nat) (v0 v1 : Value) {d0 : DataW H} {p0 : List MemPlace} {d1 : DataW H} {p1 : List MemPlace} (k0 : Value.okWide Try.prog W .any base 25 v0) (k1 : Value.okWide Try.prog W .any base 9 v1)
    (h0 : DataW.Trod enc Try.prog W 0 (fun _ => true) true 25 v0 d0 p0) (h1 : DataW.Trod enc Try.prog W 0 (fun _ => true) true 9 v1 d1 p1) :
    Calls Try.prog 7 #[v0, v1] W fun e w' => e = .returned (.bool true) ∧ Below W.heap.size W w' := by
  obtain ⟨o, hr, hok⟩ := open_output k0 h0
  obtain ⟨s, rfl, rfl, rfl, sz_s⟩ := open_string Try.underlying9 k1 h1
  unfold maxLen at sz_s
  clear k0 h0
  obtain ⟨A1, c1, A2, c2, rfl⟩ := hr.form
  have HR := Lib.hid hr
  have HOK := Lib.hid hok
  clear hr hok
  by_cases big_s : (1048576 : Int) < (s.size : Int)
  · go_enter Try.func7, Try.ntmps7
    go_wp2_with fail
    go_ret
    exact ⟨rfl, (Below.refl _ _).alloc (Nat.le_refl _) _⟩
  by_cases hn : ((o.wt : Nat) : Int) ≤ 1048576
  case neg =>
    have HP := Lib.hid (bud_neg hn)
    have hp : bud 1048576 o.wt < 0 := by rw [HP.out]; omega
    go_enter Try.func7, Try.ntmps7
    go_wp2_with fail
    refine (szOutput_any o _ _ _ HOK.out (by omega) (by omega) (B := W.heap.size) (by simp) (HR.out.below ((Below.refl _ _).alloc (Nat.le_refl _) _) (Nat.le_refl _))).mono ?_
    rintro e w1 ⟨rfl, hb1⟩
    go_wp2_with fail
    go_ret
    exact ⟨rfl, ((Below.refl _ _).alloc (Nat.le_refl _) _).trans (hb1.mono (by simp))⟩
  have hsm := small_of_wt hn
  have hwt : o.wt ≤ 1048576 := by omega
  have HS := Lib.hid hsm
  have l1 : o.heads.length ≤ 1048576 := hsm.1
  have l2 : o.bufs.length ≤ 1048576 := hsm.2
  have HF := Lib.hid (show (echoF o s).small from echo_small s hsm)
  have HP := Lib.hid (bud_pos hn)
  have hp : 0 ≤ bud 1048576 o.wt := by rw [HP.out]; omega
  have nx : ¬ o.next 1 < 0 := by unfold Out.next; omega
  have dx : decide (o.next 1 < 0) = false := by simpa using nx
  have nf : ¬ Out.next (echoF o s) 1 < 0 := by unfold Out.next; omega
  clear hsm
  generalize hF : echoF o s = q at *
  have HQ := Lib.hid hF
  clear hF
  go_enter Try.func7, Try.ntmps7
  go_wp2_with fail
  refine calls_world _ (fun X => Bx X W.heap.size 25 (.string o.sent) (.slice A1 o.heads.length c1) (.slice A2 o.bufs.length c2) ∧ Below W.heap.size W X) ⟨Bx.new _ _ _ _ _, (Below.refl W.heap.size W).alloc (by omega) _⟩ ?_
  rintro w1 ⟨bA, hB⟩
  have s1 : W.heap.size < w1.heap.size := bA.lt
  refine (szOutput_any o _ _ _ HOK.out (by omega) (by omega) (B := W.heap.size) (by omega) (HR.out.below hB (Nat.le_refl _))).mono ?_
  rintro e w2 ⟨rfl, hb⟩
  replace bA := bA.below hb (Nat.le_refl _)
  replace hB := hB.trans (hb.mono (by omega))
  have s2 : w1.heap.size ≤ w2.heap.size := hb.size
  clear hb
  have bA0 := bA.cell0
  have bA1 := bA.cell1
  have bA2 := bA.cell2
  have bAl := bA.lt
  go_wp2_with fail
  clear bA0 bA1 bA2 bAl
  refine (toOutput_any o _ _ HS.out (B := W.heap.size) (by omega) (HR.out.below hB (Nat.le_refl _))).mono ?_
  rintro e w3 ⟨u, rfl, own, hb⟩
  replace bA := bA.below hb (Nat.le_refl _)
  replace hB := hB.trans (hb.mono (by omega))
  have s3 : w2.heap.size ≤ w3.heap.size := hb.size
  clear hb
  obtain ⟨U1, Uc1, U2, Uc2, rfl⟩ := own.form
  have iu := own.inI
  clear own
  have bA0 := bA.cell0
  have bA1 := bA.cell1
  have bA2 := bA.cell2
  have bAl := bA.lt
  go_wp2_with fail
  clear bA0 bA1 bA2 bAl
  refine ((echo_spec o s _ _ l1 l2 (by have := tot_wt o; omega) (by omega) (B := w3.heap.size) (Nat.le_refl _) iu.reads).mono ?_)
  rw [HQ.out]
  rintro e w4 ⟨u, rfl, own, hb⟩
  replace bA := bA.below hb (Nat.le_refl _)
  replace iu := iu.below hb (Nat.le_refl _)
  replace hB := hB.trans (hb.mono (by omega))
  have s4 : w3.heap.size ≤ w4.heap.size := hb.size
  clear hb
  obtain ⟨G1, Gc1, G2, Gc2, rfl⟩ := own.form
  have iw := own.inI
  clear own
  clear iu
  have bA0 := bA.cell0
  have bA1 := bA.cell1
  have bA2 := bA.cell2
  have bAl := bA.lt
  go_wp2_with fail
  clear bA0 bA1 bA2 bAl
  refine calls_world _ (fun X => Bx X W.heap.size 25 (.string o.sent) (.slice A1 o.heads.length c1) (.slice A2 o.bufs.length c2) ∧ Bx X w4.heap.size 32 (.string q.sent) (.slice G1 q.heads.length Gc1) (.slice G2 q.bufs.length Gc2) ∧ OutI X w3.heap.size w4.heap.size (.agg #[.string q.sent, .slice G1 q.heads.length Gc1, .slice G2 q.bufs.length Gc2]) q ∧ Below W.heap.size W X) ⟨bA.alloc _, Bx.new _ _ _ _ _, iw.alloc _, (hB).alloc (by omega) _⟩ ?_
  clear bA iw hB
  rintro w5 ⟨bA, b0, iw, hB⟩
  have s5 : w4.heap.size < w5.heap.size := b0.lt
  refine (toOutput_any o _ _ HS.out (B := W.heap.size) (by omega) (HR.out.below hB (Nat.le_refl _))).mono ?_
  rintro e w6 ⟨u, rfl, own, hb⟩
  replace bA := bA.below hb (Nat.le_refl _)
  replace b0 := b0.below hb (Nat.le_refl _)
  replace iw := iw.below hb (Nat.le_refl _)
  replace hB := hB.trans (hb.mono (by omega))
  have s6 : w5.heap.size ≤ w6.heap.size := hb.size
  clear hb
  obtain ⟨X1, Xc1, X2, Xc2, rfl⟩ := own.form
  have ix := own.inI
  clear own
  have bA0 := bA.cell0
  have bA1 := bA.cell1
  have bA2 := bA.cell2
  have bAl := bA.lt
  have b00 := b0.cell0
  have b01 := b0.cell1
  have b02 := b0.cell2
  have b0l := b0.lt
  go_wp2_with fail
  clear bA0 bA1 bA2 bAl b00 b01 b02 b0l
  refine calls_world _ (fun X => Bx X W.heap.size 25 (.string o.sent) (.slice A1 o.heads.length c1) (.slice A2 o.bufs.length c2) ∧ Bx X w4.heap.size 32 (.string q.sent) (.slice G1 q.heads.length Gc1) (.slice G2 q.bufs.length Gc2) ∧ Bx X w6.heap.size 32 (.string o.sent) (.slice X1 o.heads.length Xc1) (.slice X2 o.bufs.length Xc2) ∧ OutI X w3.heap.size w4.heap.size (.agg #[.string q.sent, .slice G1 q.heads.length Gc1, .slice G2 q.bufs.length Gc2]) q ∧ OutI X w5.heap.size w6.heap.size (.agg #[.string o.sent, .slice X1 o.heads.length Xc1, .slice X2 o.bufs.length Xc2]) o ∧ Below W.heap.size W X) ⟨bA.alloc _, b0.alloc _, Bx.new _ _ _ _ _, iw.alloc _, ix.alloc _, (hB).alloc (by omega) _⟩ ?_
  clear bA b0 iw ix hB
  rintro w7 ⟨bA, b0, bx, iw, ix, hB⟩
  have s7 : w6.heap.size < w7.heap.size := bx.lt
  refine ((echo_impl o s _ _ l1 l2 (by have := tot_wt o; omega) (by omega) (B := w7.heap.size) (Nat.le_refl _) ix.reads).mono ?_)
  rw [HQ.out]
  rintro e w8 ⟨u, rfl, own, hb⟩
  replace bA := bA.below hb (Nat.le_refl _)
  replace b0 := b0.below hb (Nat.le_refl _)
  replace bx := bx.below hb (Nat.le_refl _)
  replace iw := iw.below hb (Nat.le_refl _)
  replace ix := ix.below hb (Nat.le_refl _)
  replace hB := hB.trans (hb.mono (by omega))
  have s8 : w7.heap.size ≤ w8.heap.size := hb.size
  clear hb
  obtain ⟨Y1, Yc1, Y2, Yc2, rfl⟩ := own.form
  have ig := own.inI
  clear own
  have bA0 := bA.cell0
  have bA1 := bA.cell1
  have bA2 := bA.cell2
  have bAl := bA.lt
  have b00 := b0.cell0
  have b01 := b0.cell1
  have b02 := b0.cell2
  have b0l := b0.lt
  have bx0 := bx.cell0
  have bx1 := bx.cell1
  have bx2 := bx.cell2
  have bxl := bx.lt
  go_wp2_with fail
  clear bA0 bA1 bA2 bAl b00 b01 b02 b0l bx0 bx1 bx2 bxl
  refine calls_world _ (fun X => Bx X W.heap.size 25 (.string o.sent) (.slice A1 o.heads.length c1) (.slice A2 o.bufs.length c2) ∧ Bx X w4.heap.size 32 (.string q.sent) (.slice G1 q.heads.length Gc1) (.slice G2 q.bufs.length Gc2) ∧ Bx X w6.heap.size 32 (.string o.sent) (.slice X1 o.heads.length Xc1) (.slice X2 o.bufs.length Xc2) ∧ Bx X w8.heap.size 32 (.string q.sent) (.slice Y1 q.heads.length Yc1) (.slice Y2 q.bufs.length Yc2) ∧ OutI X w3.heap.size w4.heap.size (.agg #[.string q.sent, .slice G1 q.heads.length Gc1, .slice G2 q.bufs.length Gc2]) q ∧ OutI X w5.heap.size w6.heap.size (.agg #[.string o.sent, .slice X1 o.heads.length Xc1, .slice X2 o.bufs.length Xc2]) o ∧ OutI X w7.heap.size w8.heap.size (.agg #[.string q.sent, .slice Y1 q.heads.length Yc1, .slice Y2 q.bufs.length Yc2]) q ∧ Below W.heap.size W X) ⟨bA.alloc _, b0.alloc _, bx.alloc _, Bx.new _ _ _ _ _, iw.alloc _, ix.alloc _, ig.alloc _, (hB).alloc (by omega) _⟩ ?_
  clear bA b0 bx iw ix ig hB
  rintro w9 ⟨bA, b0, bx, bg, iw, ix, ig, hB⟩
  have s9 : w8.heap.size < w9.heap.size := bg.lt
  refine (eqOutput_same q _ _ _ HF.out (Nat.le_refl _) ig.reads iw.reads).mono ?_
  rintro e w10 ⟨rfl, hb⟩
  replace bA := bA.below hb (Nat.le_refl _)
  replace b0 := b0.below hb (Nat.le_refl _)
  replace bx := bx.below hb (Nat.le_refl _)
  replace bg := bg.below hb (Nat.le_refl _)
  replace iw := iw.below hb (Nat.le_refl _)
  replace ix := ix.below hb (Nat.le_refl _)
  replace ig := ig.below hb (Nat.le_refl _)
  replace hB := hB.trans (hb.mono (by omega))
  have s10 : w9.heap.size ≤ w10.heap.size := hb.size
  clear hb
  have bA0 := bA.cell0
  have bA1 := bA.cell1
  have bA2 := bA.cell2
  have bAl := bA.lt
  have b00 := b0.cell0
  have b01 := b0.cell1
  have b02 := b0.cell2
  have b0l := b0.lt
  have bx0 := bx.cell0
  have bx1 := bx.cell1
  have bx2 := bx.cell2
  have bxl := bx.lt
  have bg0 := bg.cell0
  have bg1 := bg.cell1
  have bg2 := bg.cell2
  have bgl := bg.lt
  go_wp2_with fail
  clear bA0 bA1 bA2 bAl b00 b01 b02 b0l bx0 bx1 bx2 bxl bg0 bg1 bg2 bgl
  have y0 := bx.cell0
  have y1 := bx.cell1
  have y2 := bx.cell2
  have y3 := bA.cell0
  have y4 := bA.cell1
  have y5 := bA.cell2
  have t1 : W.heap.size ≤ w10.drew.heap.size := hB.size
  have T2 := Lib.hid (show OutR w10.drew W.heap.size _ o from (HR.out.below hB (Nat.le_refl _)).keep fun _ _ => rfl)
  have lA := bA.lt
  have lX := bx.lt
  go_region_held3 (fun w_ => w_.cell? ⟨w6.heap.size, 0, none⟩ = some (.string o.sent) ∧ w_.cell? ⟨w6.heap.size, 1, none⟩ = some (.slice X1 o.heads.length Xc1) ∧ w_.cell? ⟨w6.heap.size, 2, none⟩ = some (.slice X2 o.bufs.length Xc2) ∧ w_.cell? ⟨W.heap.size, 0, none⟩ = some (.string o.sent) ∧ w_.cell? ⟨W.heap.size, 1, none⟩ = some (.slice A1 o.heads.length c1) ∧ w_.cell? ⟨W.heap.size, 2, none⟩ = some (.slice A2 o.bufs.length c2))
    (first
      | exact ⟨y0, y1, y2, y3, y4, y5⟩
      | exact ⟨((bcell hb1).1 _ _ (by simp; omega)).trans y0, ((bcell hb1).1 _ _ (by simp; omega)).trans y1, ((bcell hb1).1 _ _ (by simp; omega)).trans y2, ((bcell hb1).1 _ _ (by simp; omega)).trans y3, ((bcell hb1).1 _ _ (by simp; omega)).trans y4, ((bcell hb1).1 _ _ (by simp; omega)).trans y5⟩
      | exact ⟨((bcell hb2).1 _ _ (by omega)).trans (((bcell zb).1 _ _ (by omega)).trans y0), ((bcell hb2).1 _ _ (by omega)).trans (((bcell zb).1 _ _ (by omega)).trans y1), ((bcell hb2).1 _ _ (by omega)).trans (((bcell zb).1 _ _ (by omega)).trans y2), ((bcell hb2).1 _ _ (by omega)).trans (((bcell zb).1 _ _ (by omega)).trans y3), ((bcell hb2).1 _ _ (by omega)).trans (((bcell zb).1 _ _ (by omega)).trans y4), ((bcell hb2).1 _ _ (by omega)).trans (((bcell zb).1 _ _ (by omega)).trans y5)⟩)
    ((first
      | (go_at_call 15
         refine (toOutput_any o _ _ HS.out t1 T2.out).mono ?_
         rintro e wa ⟨u, rfl, own, hb1⟩
         obtain ⟨Z1, Zc1, Z2, Zc2, rfl⟩ := own.form
         have O6 := Lib.hid own
         clear own)
      | (go_at_call 17
         have zb : Below w10.heap.size w10 wa := (Below.refl w10.heap.size w10).drew.trans (hb1.mono (by simp))
         have zs := zb.size
         have E1 := Lib.hid (ix.below zb (Nat.le_refl _)).reads
         have E2 := Lib.hid O6.out.reads
         refine (eqOutput_same o _ _ _ HS.out (Nat.le_refl _) E1.out E2.out).mono ?_
         rintro e wb ⟨rfl, hb2⟩)))
  have hb := zb.trans (hb2.mono zb.size)
  clear hb1 hb2 O6 T2 t1 y0 y1 y2 y3 y4 y5
  replace bA := bA.below hb (Nat.le_refl _)
  replace b0 := b0.below hb (Nat.le_refl _)
  replace bx := bx.below hb (Nat.le_refl _)
  replace bg := bg.below hb (Nat.le_refl _)
  replace iw := iw.below hb (Nat.le_refl _)
  replace ix := ix.below hb (Nat.le_refl _)
  replace ig := ig.below hb (Nat.le_refl _)
  replace hB := hB.trans (hb.mono (by omega))
  have s11 : w10.heap.size ≤ wb.heap.size := hb.size
  clear hb zb zs
  have bA0 := bA.cell0
  have bA1 := bA.cell1
  have bA2 := bA.cell2
  have bAl := bA.lt
  have b00 := b0.cell0
  have b01 := b0.cell1
  have b02 := b0.cell2
  have b0l := b0.lt
  have bx0 := bx.cell0
  have bx1 := bx.cell1
  have bx2 := bx.cell2
  have bxl := bx.lt
  have bg0 := bg.cell0
  have bg1 := bg.cell1
  have bg2 := bg.cell2
  have bgl := bg.lt
  go_wp2_with fail
  clear bA0 bA1 bA2 bAl b00 b01 b02 b0l bx0 bx1 bx2 bxl bg0 bg1 bg2 bgl
  refine (markI o _ _ _ 1 _ HS.out (by omega) (by omega) ix).mono ?_
  rintro e w12 ⟨rfl, im, hb⟩
  replace bA := bA.only hb (Nat.le_refl _) (by omega)
  replace b0 := b0.only hb (Nat.le_refl _) (by omega)
  replace bx := bx.only hb (Nat.le_refl _) (by omega)
  replace bg := bg.only hb (Nat.le_refl _) (by omega)
  replace iw := iw.only hb (Nat.le_refl _) (by omega)
  replace ig := ig.only hb (Nat.le_refl _) (by omega)
  clear ix
  have ix := im
  clear im
  replace hB := hB.trans (hb.below (by omega) (by omega))
  have s12 : wb.heap.size ≤ w12.heap.size := hb.size
  clear hb
  have bA0 := bA.cell0
  have bA1 := bA.cell1
  have bA2 := bA.cell2
  have bAl := bA.lt
  have b00 := b0.cell0
  have b01 := b0.cell1
  have b02 := b0.cell2
  have b0l := b0.lt
  have bx0 := bx.cell0
  have bx1 := bx.cell1
  have bx2 := bx.cell2
  have bxl := bx.lt
  have bg0 := bg.cell0
  have bg1 := bg.cell1
  have bg2 := bg.cell2
  have bgl := bg.lt
  go_wp2_with fail
  clear bA0 bA1 bA2 bAl b00 b01 b02 b0l bx0 bx1 bx2 bxl bg0 bg1 bg2 bgl
  refine (eqOutput_same q _ _ _ HF.out (Nat.le_refl _) ig.reads iw.reads).mono ?_
  rintro e w13 ⟨rfl, hb⟩
  replace bA := bA.below hb (Nat.le_refl _)
  replace b0 := b0.below hb (Nat.le_refl _)
  replace bx := bx.below hb (Nat.le_refl _)
  replace bg := bg.below hb (Nat.le_refl _)
  replace iw := iw.below hb (Nat.le_refl _)
  replace ix := ix.below hb (Nat.le_refl _)
  replace ig := ig.below hb (Nat.le_refl _)
  replace hB := hB.trans (hb.mono (by omega))
  have s13 : w12.heap.size ≤ w13.heap.size := hb.size
  clear hb
  have bA0 := bA.cell0
  have bA1 := bA.cell1
  have bA2 := bA.cell2
  have bAl := bA.lt
  have b00 := b0.cell0
  have b01 := b0.cell1
  have b02 := b0.cell2
  have b0l := b0.lt
  have bx0 := bx.cell0
  have bx1 := bx.cell1
  have bx2 := bx.cell2
  have bxl := bx.lt
  have bg0 := bg.cell0
  have bg1 := bg.cell1
  have bg2 := bg.cell2
  have bgl := bg.lt
  go_wp2_with fail
  clear bA0 bA1 bA2 bAl b00 b01 b02 b0l bx0 bx1 bx2 bxl bg0 bg1 bg2 bgl
  refine (markI q _ _ _ 1 _ HF.out (by omega) (by omega) ig).mono ?_
  rintro e w14 ⟨rfl, im, hb⟩
  replace bA := bA.only hb (Nat.le_refl _) (by omega)
  replace b0 := b0.only hb (Nat.le_refl _) (by omega)
  replace bx := bx.only hb (Nat.le_refl _) (by omega)
  replace bg := bg.only hb (Nat.le_refl _) (by omega)
  replace iw := iw.only hb (Nat.le_refl _) (by omega)
  replace ix := ix.only hb (Nat.le_refl _) (by omega)
  clear ig
  have ig := im
  clear im
  replace hB := hB.trans (hb.below (by omega) (by omega))
  have s14 : w13.heap.size ≤ w14.heap.size := hb.size
  clear hb
  have bA0 := bA.cell0
  have bA1 := bA.cell1
  have bA2 := bA.cell2
  have bAl := bA.lt
  have b00 := b0.cell0
  have b01 := b0.cell1
  have b02 := b0.cell2
  have b0l := b0.lt
  have bx0 := bx.cell0
  have bx1 := bx.cell1
  have bx2 := bx.cell2
  have bxl := bx.lt
  have bg0 := bg.cell0
  have bg1 := bg.cell1
  have bg2 := bg.cell2
  have bgl := bg.lt
  go_wp2_with fail
  clear bA0 bA1 bA2 bAl b00 b01 b02 b0l bx0 bx1 bx2 bxl bg0 bg1 bg2 bgl
  refine (heldOutput_any q _ 1 _ HF.out (by omega) (by omega) ig.reads).mono ?_
  rintro e w15 ⟨rfl, hb⟩
  replace bA := bA.below hb (Nat.le_refl _)
  replace b0 := b0.below hb (Nat.le_refl _)
  replace bx := bx.below hb (Nat.le_refl _)
  replace bg := bg.below hb (Nat.le_refl _)
  replace iw := iw.below hb (Nat.le_refl _)
  replace ix := ix.below hb (Nat.le_refl _)
  replace ig := ig.below hb (Nat.le_refl _)
  replace hB := hB.trans (hb.mono (by omega))
  have s15 : w14.heap.size ≤ w15.heap.size := hb.size
  clear hb
  have bA0 := bA.cell0
  have bA1 := bA.cell1
  have bA2 := bA.cell2
  have bAl := bA.lt
  have b00 := b0.cell0
  have b01 := b0.cell1
  have b02 := b0.cell2
  have b0l := b0.lt
  have bx0 := bx.cell0
  have bx1 := bx.cell1
  have bx2 := bx.cell2
  have bxl := bx.lt
  have bg0 := bg.cell0
  have bg1 := bg.cell1
  have bg2 := bg.cell2
  have bgl := bg.lt
  go_wp2_with fail
  clear bA0 bA1 bA2 bAl b00 b01 b02 b0l bx0 bx1 bx2 bxl bg0 bg1 bg2 bgl
  refine (toOutput_any o _ _ HS.out (B := W.heap.size) (by omega) (HR.out.below hB (Nat.le_refl _))).mono ?_
  rintro e w16 ⟨u, rfl, own, hb⟩
  replace bA := bA.below hb (Nat.le_refl _)
  replace b0 := b0.below hb (Nat.le_refl _)
  replace bx := bx.below hb (Nat.le_refl _)
  replace bg := bg.below hb (Nat.le_refl _)
  replace iw := iw.below hb (Nat.le_refl _)
  replace ix := ix.below hb (Nat.le_refl _)
  replace ig := ig.below hb (Nat.le_refl _)
  replace hB := hB.trans (hb.mono (by omega))
  have s16 : w15.heap.size ≤ w16.heap.size := hb.size
  clear hb
  obtain ⟨V1, Vc1, V2, Vc2, rfl⟩ := own.form
  have iv := own.inI
  clear own
  have bA0 := bA.cell0
  have bA1 := bA.cell1
  have bA2 := bA.cell2
  have bAl := bA.lt
  have b00 := b0.cell0
  have b01 := b0.cell1
  have b02 := b0.cell2
  have b0l := b0.lt
  have bx0 := bx.cell0
  have bx1 := bx.cell1
  have bx2 := bx.cell2
  have bxl := bx.lt
  have bg0 := bg.cell0
  have bg1 := bg.cell1
  have bg2 := bg.cell2
  have bgl := bg.lt
  go_wp2_with fail
  clear bA0 bA1 bA2 bAl b00 b01 b02 b0l bx0 bx1 bx2 bxl bg0 bg1 bg2 bgl
  refine ((echo_impl o s _ _ l1 l2 (by have := tot_wt o; omega) (by omega) (B := w16.heap.size) (Nat.le_refl _) iv.reads).mono ?_)
  rw [HQ.out]
  rintro e w17 ⟨u, rfl, own, hb⟩
  replace bA := bA.below hb (Nat.le_refl _)
  replace b0 := b0.below hb (Nat.le_refl _)
  replace bx := bx.below hb (Nat.le_refl _)
  replace bg := bg.below hb (Nat.le_refl _)
  replace iw := iw.below hb (Nat.le_refl _)
  replace ix := ix.below hb (Nat.le_refl _)
  replace ig := ig.below hb (Nat.le_refl _)
  replace iv := iv.below hb (Nat.le_refl _)
  replace hB := hB.trans (hb.mono (by omega))
  have s17 : w16.heap.size ≤ w17.heap.size := hb.size
  clear hb
  obtain ⟨K1, Kc1, K2, Kc2, rfl⟩ := own.form
  have ih := own.inI
  clear own
  clear iv
  have bA0 := bA.cell0
  have bA1 := bA.cell1
  have bA2 := bA.cell2
  have bAl := bA.lt
  have b00 := b0.cell0
  have b01 := b0.cell1
  have b02 := b0.cell2
  have b0l := b0.lt
  have bx0 := bx.cell0
  have bx1 := bx.cell1
  have bx2 := bx.cell2
  have bxl := bx.lt
  have bg0 := bg.cell0
  have bg1 := bg.cell1
  have bg2 := bg.cell2
  have bgl := bg.lt
  go_wp2_with fail
  clear bA0 bA1 bA2 bAl b00 b01 b02 b0l bx0 bx1 bx2 bxl bg0 bg1 bg2 bgl
  refine calls_world _ (fun X => Bx X W.heap.size 25 (.string o.sent) (.slice A1 o.heads.length c1) (.slice A2 o.bufs.length c2) ∧ Bx X w4.heap.size 32 (.string q.sent) (.slice G1 q.heads.length Gc1) (.slice G2 q.bufs.length Gc2) ∧ Bx X w6.heap.size 32 (.string o.sent) (.slice X1 o.heads.length Xc1) (.slice X2 o.bufs.length Xc2) ∧ Bx X w8.heap.size 32 (.string q.sent) (.slice Y1 q.heads.length Yc1) (.slice Y2 q.bufs.length Yc2) ∧ Bx X w17.heap.size 32 (.string q.sent) (.slice K1 q.heads.length Kc1) (.slice K2 q.bufs.length Kc2) ∧ OutI X w3.heap.size w4.heap.size (.agg #[.string q.sent, .slice G1 q.heads.length Gc1, .slice G2 q.bufs.length Gc2]) q ∧ OutI X w5.heap.size w6.heap.size (.agg #[.string o.sent, .slice X1 o.heads.length Xc1, .slice X2 o.bufs.length Xc2]) (Out.marked o 1) ∧ OutI X w7.heap.size w8.heap.size (.agg #[.string q.sent, .slice Y1 q.heads.length Yc1, .slice Y2 q.bufs.length Yc2]) (Out.marked q 1) ∧ OutI X w16.heap.size w17.heap.size (.agg #[.string q.sent, .slice K1 q.heads.length Kc1, .slice K2 q.bufs.length Kc2]) q ∧ Below W.heap.size W X) ⟨bA.alloc _, b0.alloc _, bx.alloc _, bg.alloc _, Bx.new _ _ _ _ _, iw.alloc _, ix.alloc _, ig.alloc _, ih.alloc _, (hB).alloc (by omega) _⟩ ?_
  clear bA b0 bx bg iw ix ig ih hB
  rintro w18 ⟨bA, b0, bx, bg, bh, iw, ix, ig, ih, hB⟩
  have s18 : w17.heap.size < w18.heap.size := bh.lt
  refine (eqOutput_same q _ _ _ HF.out (Nat.le_refl _) ih.reads iw.reads).mono ?_
  rintro e w19 ⟨rfl, hb⟩
  replace bA := bA.below hb (Nat.le_refl _)
  replace b0 := b0.below hb (Nat.le_refl _)
  replace bx := bx.below hb (Nat.le_refl _)
  replace bg := bg.below hb (Nat.le_refl _)
  replace bh := bh.below hb (Nat.le_refl _)
  replace iw := iw.below hb (Nat.le_refl _)
  replace ix := ix.below hb (Nat.le_refl _)
  replace ig := ig.below hb (Nat.le_refl _)
  replace ih := ih.below hb (Nat.le_refl _)
  replace hB := hB.trans (hb.mono (by omega))
  have s19 : w18.heap.size ≤ w19.heap.size := hb.size
  clear hb
  have bA0 := bA.cell0
  have bA1 := bA.cell1
  have bA2 := bA.cell2
  have bAl := bA.lt
  have b00 := b0.cell0
  have b01 := b0.cell1
  have b02 := b0.cell2
  have b0l := b0.lt
  have bx0 := bx.cell0
  have bx1 := bx.cell1
  have bx2 := bx.cell2
  have bxl := bx.lt
  have bg0 := bg.cell0
  have bg1 := bg.cell1
  have bg2 := bg.cell2
  have bgl := bg.lt
  have bh0 := bh.cell0
  have bh1 := bh.cell1
  have bh2 := bh.cell2
  have bhl := bh.lt
  go_wp2_with fail
  clear bA0 bA1 bA2 bAl b00 b01 b02 b0l bx0 bx1 bx2 bxl bg0 bg1 bg2 bgl bh0 bh1 bh2 bhl
  refine (heldOutput_any q _ 1 _ HF.out (by omega) (by omega) ig.reads).mono ?_
  rintro e w20 ⟨rfl, hb⟩
  replace bA := bA.below hb (Nat.le_refl _)
  replace b0 := b0.below hb (Nat.le_refl _)
  replace bx := bx.below hb (Nat.le_refl _)
  replace bg := bg.below hb (Nat.le_refl _)
  replace bh := bh.below hb (Nat.le_refl _)
  replace iw := iw.below hb (Nat.le_refl _)
  replace ix := ix.below hb (Nat.le_refl _)
  replace ig := ig.below hb (Nat.le_refl _)
  replace ih := ih.below hb (Nat.le_refl _)
  replace hB := hB.trans (hb.mono (by omega))
  have s20 : w19.heap.size ≤ w20.heap.size := hb.size
  clear hb
  have bA0 := bA.cell0
  have bA1 := bA.cell1
  have bA2 := bA.cell2
  have bAl := bA.lt
  have b00 := b0.cell0
  have b01 := b0.cell1
  have b02 := b0.cell2
  have b0l := b0.lt
  have bx0 := bx.cell0
  have bx1 := bx.cell1
  have bx2 := bx.cell2
  have bxl := bx.lt
  have bg0 := bg.cell0
  have bg1 := bg.cell1
  have bg2 := bg.cell2
  have bgl := bg.lt
  have bh0 := bh.cell0
  have bh1 := bh.cell1
  have bh2 := bh.cell2
  have bhl := bh.lt
  go_wp2_with fail
  clear bA0 bA1 bA2 bAl b00 b01 b02 b0l bx0 bx1 bx2 bxl bg0 bg1 bg2 bgl bh0 bh1 bh2 bhl
  go_ret
  exact ⟨rfl, hB⟩
end Go.Proofs.Ytikebdhpgmejpaa
