/-
  The law 'FnFiles' returns true for every input and leaves its arguments as they read. Conditions: none.
-/
import Derived.Test.YtnkidlahmplgnaaDoorDoor
import Derived.Test.YtnkidlahmplgnaaDoorDrF
namespace Go.Proofs.YtnkidlahmplgnaaDoor
open Go.ChangeShapes Go.WideShapes Go.ChangeAt Go.RowKit Go.Deep Go.Joins
open Go.ChangeMaps (open_string shut_string)
set_option linter.unusedVariables false
set_option linter.unusedSimpArgs false
set_option maxRecDepth 100000

set_option maxHeartbeats 8000000 in
theorem fnFiles_walk {H : Type} {enc : TypeId × Value → H} (W : World) (base : Nat) (v0 : Value) {d0 : DataW H} {p0 : List MemPlace}
    (k0 : Value.okWide Tryd.prog W .any base 22 v0)
    (h0 : DataW.Trod enc Tryd.prog W 0 (fun _ => true) true 22 v0 d0 p0) (hsh : W.ShapedOpen Tryd.prog) :
    Calls Tryd.prog 3 #[v0] W fun e w' => e = .returned (.bool true) ∧ Below W.heap.size W w' := by
  have MX := Lib.hid (MaxAt.shaped hsh)
  clear hsh
  obtain ⟨A, n, c, rfl, hy⟩ := open_byt k0 h0
  clear k0 h0
  have HY := Lib.hid hy
  clear hy
  by_cases hbig : 1048576 < n
  · have hd := Lib.hid (decide_eq_true hbig)
    go_enter Tryd.func3, Tryd.ntmps3
    go_wp2_with (go_at_call 4; refine (big_any _ _ _ _).mono ?_; rw [hd.out]; rintro e w' ⟨rfl, rfl⟩)
    go_ret
    exact ⟨rfl, Below.refl _ _⟩
  have hd := Lib.hid (decide_eq_false hbig)
  clear hbig
  go_enter Tryd.func3, Tryd.ntmps3
  go_upto_region 4 with (first | (go_at_call 4; refine (big_any _ _ _ _).mono ?_; rw [hd.out]; rintro e w' ⟨rfl, rfl⟩) | (go_at_call 5; refine (DrawNormalPath_any A n c _ HY.out).mono ?_; rintro e w1 ⟨⟨s, hs, rfl⟩, hb⟩; have HB := Lib.hid hb; clear hb))
  have FIX := Lib.hid (@nm_fix s)
  have hps := nmS_len s
  have N1 := Lib.hid (fun (w : World) (hm : MaxAt w) => NormalPath_impl s w (by omega) hm)
  generalize nmS s = p at *
  generalize nmOk s = ok at *
  have N2 := Lib.hid (fun (w : World) (hm : MaxAt w) => NormalPath_impl p w (by omega) hm)
  have SP := Lib.hid (fun (w : World) (hm : MaxAt w) => SplitPath_impl p w (by omega) hm)
  have hvl := (spV_len p).1
  go_upto_region 5 with (go_at_call 6; refine (N1.out _ (MX.out.below HB.out)).mono ?_; rintro e w2 ⟨rfl, hb⟩; replace HB := Lib.hid (HB.out.trans (hb.mono HB.out.size)); clear hb)
  go_upto_region 6 with (go_at_call 6; refine (N2.out _ (MX.out.below HB.out)).mono ?_; rintro e w3 ⟨rfl, hb⟩; replace HB := Lib.hid (HB.out.trans (hb.mono HB.out.size)); clear hb)
  go_upto_region 7 with (go_at_call 7; refine (SP.out _ (MX.out.below HB.out)).mono ?_; rintro e w4 ⟨A4, c4, rfl, own, hb⟩; replace HB := Lib.hid (HB.out.trans (hb.mono HB.out.size)); have OL := Lib.hid own; clear own hb)
  clear N1 N2 SP hd
  cases ok with
  | false =>
    have hl9 : (spV p).length ≤ 9223372036854775807 := by omega
    go_wp2_with fail
    go_loop [10] (fun i => ∃ k : Nat, k ≤ (spV p).length ∧ i = .int .i64 k) (fun i => (spV p).length - (intOf i).toNat)
    case atStart => exact ⟨0, Nat.zero_le _, rfl⟩
    case round =>
      obtain ⟨k, hk, rfl⟩ := hrel
      by_cases hlt : k < (spV p).length
      · have hkl : (k : Int) < ((spV p).length : Int) := by omega
        go_wp2_with fail
        go_round
        case rel => exact ⟨k + 1, by omega, by go_num⟩
        case measure => simp [intOf]; omega
      · have hkl : ¬ (k : Int) < ((spV p).length : Int) := by omega
        clear hlt
        have HYX := Lib.hid (show Byts w4 w4.heap.size A n from by
          have h := HY.out.keep (fun b o hb => (bcell HB.out).1 b o hb)
          exact ⟨h.1, fun hn => by obtain ⟨b, o', e, hb, hc⟩ := h.2 hn; exact ⟨b, o', e, Nat.lt_of_lt_of_le hb HB.out.size, hc⟩⟩)
        go_upto_region 15 with (go_at_call 9; refine (DrawWriteFile_any A n c _ HYX.out).mono ?_; rintro e w8 ⟨⟨V, A5, c5, q, t, hV, hq, ht, rfl, own⟩, hb⟩; replace HB := Lib.hid (HB.out.trans (hb.mono HB.out.size)); have HLE := Lib.hid hb.size; have RV := Lib.hid own; clear own hb)
        have FV := Lib.hid hV
        have hVn := hV.n
        have FX := Lib.hid (fst_wr hV (by decide) q t ht)
        have hXn := FX.out.n
        have WOK := Lib.hid (@wr_ok V q t)
        have WNO := Lib.hid (@wr_not V q t)
        have WF := Lib.hid (fun (u : Value) (w : World) (hm : MaxAt w) (hr : RdC w w.heap.size (.s 39 3 V.length (FFile.flat V)) u) => WriteFile_impl V q t u w (by omega) (by omega) hm (hV.w (by decide)) (Nat.le_refl _) hr)
        have FF := Lib.hid (fun (u : Value) (w : World) (hm : MaxAt w) (hr : RdC w w.heap.size (.s 39 3 V.length (FFile.flat V)) u) => FindFile_impl V q u w (by omega) hm (by omega) (Nat.le_refl _) hr)
        clear hV
        generalize (wrO V q t).1 = x at *
        generalize (wrO V q t).2 = done at *
        have FG := Lib.hid (fun (u : Value) (w : World) (hm : MaxAt w) (hr : RdC w w.heap.size (.s 39 3 x.length (FFile.flat x)) u) => FindFile_impl x q u w (by omega) hm (by omega) (Nat.le_refl _) hr)
        have IS := Lib.hid (fun (u : Value) (w : World) (hm : MaxAt w) (hr : RdC w w.heap.size (.s 39 3 x.length (FFile.flat x)) u) => IsSite_impl x u w hm (FX.out.w (by decide)) (Nat.le_refl _) hr)
        obtain ⟨fx, hfx⟩ : ∃ fx, fx = fif x q := ⟨_, rfl⟩
        rw [← hfx] at FG
        have HFX := Lib.hid hfx
        clear hfx
        go_upto_region 17 with (first
          | (go_at_call 10; refine (WF.out _ _ (MX.out.below HB.out) ((own_files RV.out HLE.out).read)).mono ?_; rintro e w9 ⟨A6, c6, rfl, own, hb⟩; replace HB := Lib.hid (HB.out.trans (hb.mono HB.out.size)); replace RV := Lib.hid (RW.keep RV.out hb); have RX := Lib.hid own; have HLE2 := Lib.hid hb.size; clear own hb)
          | (go_at_call 11; refine (FG.out _ _ (MX.out.below HB.out) ((own_files RX.out HLE2.out).read)).mono ?_; rintro e w10 ⟨rfl, hb⟩; have HLE3 := Lib.hid hb.size; replace HB := Lib.hid (HB.out.trans (hb.mono HB.out.size)); replace RV := Lib.hid (RW.keep RV.out hb); replace RX := Lib.hid (RW.keep RX.out hb); clear hb))
        clear WF FG HYX
        have HLV0 := Lib.hid (Nat.le_trans HLE.out (Nat.le_trans HLE2.out HLE3.out))
        have HLX := Lib.hid (Nat.le_trans HLE2.out HLE3.out)
        cases done with
        | false =>
          obtain rfl : V = x := (WNO.out (by trivial)).symm
          have e1 : ((V.length : Int) == (V.length : Int)) = true := by simp
          go_wp2_with fail
          go_ret
          exact ⟨rfl, HB.out⟩
        | true =>
          have WK := WOK.out (by trivial)
          clear WOK WNO
          have tok2 : True := trivial
          rcases WK with ⟨k, y, h1, h2, h3, h4, h5⟩ | ⟨h1, h2, h3, h4, r, h5⟩
          · obtain rfl : fx = (k : Int) := HFX.out.trans h2
            have hk : k < x.length := (List.getElem?_eq_some_iff.1 h3).1
            obtain ⟨g6, rfl⟩ := RW.some RX.out (by omega)
            obtain ⟨y0, y1, y2⟩ := y
            obtain ⟨_, fv1, fv2⟩ := fvals_at x k _ h3
            obtain rfl : t = y1 := h4.symm
            have hk0 : (0 : Int) ≤ (k : Int) := by omega
            have hkl : (k : Int) < (x.length : Int) := by omega
            have FV1 := Lib.hid fv1
            have H1 := Lib.hid h1
            have H5 := Lib.hid h5
            clear h1 h2 h3 h5 fv1 fv2
            go_wp2_with (first
              | (go_at_call 12; refine (IS.out _ _ (MX.out.below HB.out) ((own_files RX.out HLX.out).read)).mono ?_; rw [H1.out]; rintro e w11 ⟨rfl, hb⟩; replace HB := Lib.hid (HB.out.trans (hb.mono HB.out.size)); replace RV := Lib.hid (RW.keep RV.out hb); replace RX := Lib.hid (RW.keep RX.out hb); have fc := (World.ownsRow.cellAt RX.out (k * 3 + 1) (by omega)).trans FV1.out; have HLV := Lib.hid (Nat.le_trans HLV0.out hb.size); clear hb)
              | (go_at_call 11; refine (FF.out _ _ (MX.out.below HB.out) ((own_files RV.out HLV.out).read)).mono ?_; rw [H5.out]; rintro e w12 ⟨rfl, hb⟩; replace HB := Lib.hid (HB.out.trans (hb.mono HB.out.size)); clear hb))
            go_ret
            exact ⟨rfl, HB.out⟩
          · obtain rfl : fx = (V.length : Int) := HFX.out.trans h2
            have hk : V.length < x.length := by omega
            obtain ⟨g6, rfl⟩ := RW.some RX.out (by omega)
            obtain ⟨_, fv1, fv2⟩ := fvals_at x V.length _ h5
            have hk0 : (0 : Int) ≤ (V.length : Int) := by omega
            have hkl : (V.length : Int) < (x.length : Int) := by omega
            have hm1 : ((-1 : Int) == (V.length : Int)) = false := by rw [beq_eq_false_iff_ne]; omega
            have hm2 : ((x.length : Int) == (V.length : Int) + 1) = true := by rw [beq_iff_eq]; omega
            have FV1 := Lib.hid fv1
            have FV2 := Lib.hid fv2
            have H1 := Lib.hid h1
            have H4 := Lib.hid h4
            clear h1 h2 h3 h4 h5 fv1 fv2
            go_wp2_with (first
              | (have _t := tok2; go_at_call 12; refine (IS.out _ _ (MX.out.below HB.out) ((own_files RX.out HLX.out).read)).mono ?_; rw [H1.out]; rintro e w11 ⟨rfl, hb⟩; replace HB := Lib.hid (HB.out.trans (hb.mono HB.out.size)); replace RV := Lib.hid (RW.keep RV.out hb); replace RX := Lib.hid (RW.keep RX.out hb); have fc := (World.ownsRow.cellAt RX.out (V.length * 3 + 1) (by omega)).trans FV1.out; have HLV := Lib.hid (Nat.le_trans HLV0.out hb.size); have HLX1 := Lib.hid (Nat.le_trans HLX.out hb.size); clear tok2; clear hb)
              | (go_at_call 11; refine (FF.out _ _ (MX.out.below HB.out) ((own_files RV.out HLV.out).read)).mono ?_; rw [H4.out]; rintro e w12 ⟨rfl, hb⟩; replace HB := Lib.hid (HB.out.trans (hb.mono HB.out.size)); replace RX := Lib.hid (RW.keep RX.out hb); have HLX2 := Lib.hid (Nat.le_trans HLX1.out hb.size); clear hb)
              | (go_at_call 12; refine (IS.out _ _ (MX.out.below HB.out) ((own_files RX.out HLX2.out).read)).mono ?_; rw [H1.out]; rintro e w13 ⟨rfl, hb⟩; replace HB := Lib.hid (HB.out.trans (hb.mono HB.out.size)); replace RX := Lib.hid (RW.keep RX.out hb); have fc := (World.ownsRow.cellAt RX.out (V.length * 3 + 1) (by omega)).trans FV1.out; have fe := (World.ownsRow.cellAt RX.out (V.length * 3 + 2) (by omega)).trans FV2.out; clear hb))
            go_ret
            exact ⟨rfl, HB.out⟩

  | true =>
    have FX0 := FIX.out (by trivial)
    have g1 : nmOk p = true := FX0.ok
    have g2 : nmS p = p := FX0.same
    have ISN := Lib.hid (fun (w : World) (hm : MaxAt w) => IsNormal_impl p w (by omega) hm)
    have GI := Lib.hid FX0.isn
    have hne : (((spV p).length : Int) == 0) = false := by
      have := FX0.ne
      rw [beq_eq_false_iff_ne]
      omega
    have hpos := FX0.pos
    have h47 : (((p[0]'hpos).toNat : Int) == 47) = false := by
      have := FX0.head hpos
      rw [beq_eq_false_iff_ne]
      exact this
    have GP := Lib.hid FX0.parts
    have hnl : 0 < (spV p).length := by have := FX0.ne; omega
    obtain ⟨g4, rfl⟩ := own_some OL.out hnl
    have hq : (p.toList != p.toList) = false := by simp
    rw [g1, g2]
    clear FX0 FIX g1 g2
    go_upto_region 9 with (go_at_call 8; refine (ISN.out _ (MX.out.below HB.out)).mono ?_; rw [GI.out]; rintro e w5 ⟨rfl, hb⟩; replace HB := Lib.hid (HB.out.trans (hb.mono HB.out.size)); replace OL := Lib.hid (own_below OL.out hb (Nat.le_refl _)); clear hb)
    clear h47 hne hq
    have hl9 : (spV p).length ≤ 9223372036854775807 := by omega
    go_wp2_with fail
    go_loop [10] (fun i => ∃ k : Nat, k ≤ (spV p).length ∧ i = .int .i64 k) (fun i => (spV p).length - (intOf i).toNat)
    case atStart => exact ⟨0, Nat.zero_le _, rfl⟩
    case round =>
      obtain ⟨k, hk, rfl⟩ := hrel
      by_cases hlt : k < (spV p).length
      · have hkl : (k : Int) < ((spV p).length : Int) := by omega
        have hk0 : (0 : Int) ≤ (k : Int) := by omega
        obtain ⟨x, hx⟩ : ∃ x, (spV p)[k]? = some x := ⟨_, List.getElem?_eq_getElem hlt⟩
        have cx : w5.cell? ⟨g4, k, none⟩ = some (.string x) := by rw [World.ownsRow.cellAt OL.out k (by omega), List.getElem?_map, hx]; rfl
        obtain ⟨q1, q2, q3⟩ := GP.out x (List.mem_of_getElem? hx)
        have r1 : (x.toList == [46, 46]) = false := q1
        have r2 : (x.toList == [46]) = false := q2
        have r1' : ¬ x.toList = [46, 46] := by simpa using r1
        have r2' : ¬ x.toList = [46] := by simpa using r2
        have r4 : x.toList.isEmpty = false := by
          cases h : x.toList with
          | nil => rw [h] at q3; cases q3
          | cons a r => rfl
        clear hx q1 q2 q3
        go_wp2_with fail
        go_round
        case rel => exact ⟨k + 1, by omega, by go_num⟩
        case measure => simp [intOf]; omega
      · have hkl : ¬ (k : Int) < ((spV p).length : Int) := by omega
        clear hlt
        have HYX := Lib.hid (show Byts w5 w5.heap.size A n from by
          have h := HY.out.keep (fun b o hb => (bcell HB.out).1 b o hb)
          exact ⟨h.1, fun hn => by obtain ⟨b, o', e, hb, hc⟩ := h.2 hn; exact ⟨b, o', e, Nat.lt_of_lt_of_le hb HB.out.size, hc⟩⟩)
        go_upto_region 15 with (go_at_call 9; refine (DrawWriteFile_any A n c _ HYX.out).mono ?_; rintro e w8 ⟨⟨V, A5, c5, q, t, hV, hq, ht, rfl, own⟩, hb⟩; replace HB := Lib.hid (HB.out.trans (hb.mono HB.out.size)); have HLE := Lib.hid hb.size; have RV := Lib.hid own; clear own hb)
        have FV := Lib.hid hV
        have hVn := hV.n
        have FX := Lib.hid (fst_wr hV (by decide) q t ht)
        have hXn := FX.out.n
        have WOK := Lib.hid (@wr_ok V q t)
        have WNO := Lib.hid (@wr_not V q t)
        have WF := Lib.hid (fun (u : Value) (w : World) (hm : MaxAt w) (hr : RdC w w.heap.size (.s 39 3 V.length (FFile.flat V)) u) => WriteFile_impl V q t u w (by omega) (by omega) hm (hV.w (by decide)) (Nat.le_refl _) hr)
        have FF := Lib.hid (fun (u : Value) (w : World) (hm : MaxAt w) (hr : RdC w w.heap.size (.s 39 3 V.length (FFile.flat V)) u) => FindFile_impl V q u w (by omega) hm (by omega) (Nat.le_refl _) hr)
        clear hV
        generalize (wrO V q t).1 = x at *
        generalize (wrO V q t).2 = done at *
        have FG := Lib.hid (fun (u : Value) (w : World) (hm : MaxAt w) (hr : RdC w w.heap.size (.s 39 3 x.length (FFile.flat x)) u) => FindFile_impl x q u w (by omega) hm (by omega) (Nat.le_refl _) hr)
        have IS := Lib.hid (fun (u : Value) (w : World) (hm : MaxAt w) (hr : RdC w w.heap.size (.s 39 3 x.length (FFile.flat x)) u) => IsSite_impl x u w hm (FX.out.w (by decide)) (Nat.le_refl _) hr)
        obtain ⟨fx, hfx⟩ : ∃ fx, fx = fif x q := ⟨_, rfl⟩
        rw [← hfx] at FG
        have HFX := Lib.hid hfx
        clear hfx
        go_upto_region 17 with (first
          | (go_at_call 10; refine (WF.out _ _ (MX.out.below HB.out) ((own_files RV.out HLE.out).read)).mono ?_; rintro e w9 ⟨A6, c6, rfl, own, hb⟩; replace HB := Lib.hid (HB.out.trans (hb.mono HB.out.size)); replace RV := Lib.hid (RW.keep RV.out hb); have RX := Lib.hid own; have HLE2 := Lib.hid hb.size; clear own hb)
          | (go_at_call 11; refine (FG.out _ _ (MX.out.below HB.out) ((own_files RX.out HLE2.out).read)).mono ?_; rintro e w10 ⟨rfl, hb⟩; have HLE3 := Lib.hid hb.size; replace HB := Lib.hid (HB.out.trans (hb.mono HB.out.size)); replace RV := Lib.hid (RW.keep RV.out hb); replace RX := Lib.hid (RW.keep RX.out hb); clear hb))
        clear WF FG HYX
        have HLV0 := Lib.hid (Nat.le_trans HLE.out (Nat.le_trans HLE2.out HLE3.out))
        have HLX := Lib.hid (Nat.le_trans HLE2.out HLE3.out)
        cases done with
        | false =>
          obtain rfl : V = x := (WNO.out (by trivial)).symm
          have e1 : ((V.length : Int) == (V.length : Int)) = true := by simp
          go_wp2_with fail
          go_ret
          exact ⟨rfl, HB.out⟩
        | true =>
          have WK := WOK.out (by trivial)
          clear WOK WNO
          have tok2 : True := trivial
          rcases WK with ⟨k, y, h1, h2, h3, h4, h5⟩ | ⟨h1, h2, h3, h4, r, h5⟩
          · obtain rfl : fx = (k : Int) := HFX.out.trans h2
            have hk : k < x.length := (List.getElem?_eq_some_iff.1 h3).1
            obtain ⟨g6, rfl⟩ := RW.some RX.out (by omega)
            obtain ⟨y0, y1, y2⟩ := y
            obtain ⟨_, fv1, fv2⟩ := fvals_at x k _ h3
            obtain rfl : t = y1 := h4.symm
            have hk0 : (0 : Int) ≤ (k : Int) := by omega
            have hkl : (k : Int) < (x.length : Int) := by omega
            have FV1 := Lib.hid fv1
            have H1 := Lib.hid h1
            have H5 := Lib.hid h5
            clear h1 h2 h3 h5 fv1 fv2
            go_wp2_with (first
              | (go_at_call 12; refine (IS.out _ _ (MX.out.below HB.out) ((own_files RX.out HLX.out).read)).mono ?_; rw [H1.out]; rintro e w11 ⟨rfl, hb⟩; replace HB := Lib.hid (HB.out.trans (hb.mono HB.out.size)); replace RV := Lib.hid (RW.keep RV.out hb); replace RX := Lib.hid (RW.keep RX.out hb); have fc := (World.ownsRow.cellAt RX.out (k * 3 + 1) (by omega)).trans FV1.out; have HLV := Lib.hid (Nat.le_trans HLV0.out hb.size); clear hb)
              | (go_at_call 11; refine (FF.out _ _ (MX.out.below HB.out) ((own_files RV.out HLV.out).read)).mono ?_; rw [H5.out]; rintro e w12 ⟨rfl, hb⟩; replace HB := Lib.hid (HB.out.trans (hb.mono HB.out.size)); clear hb))
            go_ret
            exact ⟨rfl, HB.out⟩
          · obtain rfl : fx = (V.length : Int) := HFX.out.trans h2
            have hk : V.length < x.length := by omega
            obtain ⟨g6, rfl⟩ := RW.some RX.out (by omega)
            obtain ⟨_, fv1, fv2⟩ := fvals_at x V.length _ h5
            have hk0 : (0 : Int) ≤ (V.length : Int) := by omega
            have hkl : (V.length : Int) < (x.length : Int) := by omega
            have hm1 : ((-1 : Int) == (V.length : Int)) = false := by rw [beq_eq_false_iff_ne]; omega
            have hm2 : ((x.length : Int) == (V.length : Int) + 1) = true := by rw [beq_iff_eq]; omega
            have FV1 := Lib.hid fv1
            have FV2 := Lib.hid fv2
            have H1 := Lib.hid h1
            have H4 := Lib.hid h4
            clear h1 h2 h3 h4 h5 fv1 fv2
            go_wp2_with (first
              | (have _t := tok2; go_at_call 12; refine (IS.out _ _ (MX.out.below HB.out) ((own_files RX.out HLX.out).read)).mono ?_; rw [H1.out]; rintro e w11 ⟨rfl, hb⟩; replace HB := Lib.hid (HB.out.trans (hb.mono HB.out.size)); replace RV := Lib.hid (RW.keep RV.out hb); replace RX := Lib.hid (RW.keep RX.out hb); have fc := (World.ownsRow.cellAt RX.out (V.length * 3 + 1) (by omega)).trans FV1.out; have HLV := Lib.hid (Nat.le_trans HLV0.out hb.size); have HLX1 := Lib.hid (Nat.le_trans HLX.out hb.size); clear tok2; clear hb)
              | (go_at_call 11; refine (FF.out _ _ (MX.out.below HB.out) ((own_files RV.out HLV.out).read)).mono ?_; rw [H4.out]; rintro e w12 ⟨rfl, hb⟩; replace HB := Lib.hid (HB.out.trans (hb.mono HB.out.size)); replace RX := Lib.hid (RW.keep RX.out hb); have HLX2 := Lib.hid (Nat.le_trans HLX1.out hb.size); clear hb)
              | (go_at_call 12; refine (IS.out _ _ (MX.out.below HB.out) ((own_files RX.out HLX2.out).read)).mono ?_; rw [H1.out]; rintro e w13 ⟨rfl, hb⟩; replace HB := Lib.hid (HB.out.trans (hb.mono HB.out.size)); replace RX := Lib.hid (RW.keep RX.out hb); have fc := (World.ownsRow.cellAt RX.out (V.length * 3 + 1) (by omega)).trans FV1.out; have fe := (World.ownsRow.cellAt RX.out (V.length * 3 + 2) (by omega)).trans FV2.out; clear hb))
            go_ret
            exact ⟨rfl, HB.out⟩
noncomputable abbrev laidHere : List (String × DataW Unit) := [("unicode/utf8.acceptRanges", Rows.laid_unicode_utf8_acceptRanges), ("unicode/utf8.first", Rows.laid_unicode_utf8_first)]
set_option maxRecDepth 100000 in
theorem fnFiles_lifted (os : Os) (started : os.Started) (H : Type) (enc : TypeId × Value → H) :
    ReturnsInHanded {} Tryd.checked os 3 .any (fun w args => (Rows.fnFilesSpec.pre enc Tryd.prog Tryd.f3 Rows.fnFilesRow.domain false w args ∧ laidMetH Tryd.prog laidHere w) ∧ sizedMet enc Tryd.prog Tryd.f3 (OpenSpec.ofChange Rows.fnFilesSpec) false w args) (Rows.fnFilesSpec.post enc Tryd.prog Tryd.f3 false true false false) := by
  refine handed_both (C := Tryd.checked) (X := fun w _ => laidMetH Tryd.prog laidHere w) own started (by kernel_rfl) Tryd.func3
    (ChangeSpec.witness_shaped (enc := enc) (C := Tryd.checked) (os := os) (X := fun w _ => laidMetH Tryd.prog laidHere w) false (World.laidAll Tryd.prog os laidHere) #[.slice none 0 0] 8 (World.laidAll_os _ _ _)
      (World.shaped_of_ZipB (by kernel_rfl) (by kernel_rfl)) (by kernel_rfl) (by kernel_rfl) (by kernel_rfl)
      (by rw [MakeChecks.laidMetH_plain _ _ _ (by kernel_rfl)]; exact laidMet_laidAll _ (by kernel_rfl) (by kernel_rfl))) ?_
  intro W base args ds gs before hval0 hW hsh
  have hval : ∀ (j : Nat) t v, Tryd.f3.params[j]? = some t → args[j]? = some v → Value.okWide Tryd.prog W .any base t v := hval0
  have hW' := hW
  obtain ⟨p, q, hA0, hV, rfl, hfz, hnd⟩ := hW
  have hA : DataW.TrodAll enc Tryd.prog W 0 (fun _ => true) true Tryd.f3.params.toList args.toList ds p := hA0
  rw [Tryd.params3] at hA hval
  obtain ⟨v0, vs0, d0, ds0, p0, q0, hargs, rfl, rfl, h0, r0⟩ := trodAll_cons hA
  obtain ⟨rfl, rfl, rfl⟩ := trodAll_nil r0
  obtain rfl : args = #[v0] := by cases args; simp_all
  obtain ⟨rfl, rfl⟩ := trodVars_none hV
  have lt0 : ∀ x ∈ p0, x.block < W.heap.size := by obtain ⟨m, hm⟩ := h0; exact DataW.trod_lt m _ _ _ hm
  have k0 := hval 0 22 v0 rfl rfl
  clear hA0 hval0
  refine (fnFiles_walk W base v0 k0 h0 hsh).mono fun e W' ⟨he, bel⟩ => ?_
  subst he
  exact ⟨_, rfl, _, _, _, [], _, [], hW', trodAll_mk1 (shut_bool Tryd.underlying4 _), (trodAll_cons_mk (Below.trod laidOut (by kernel_rfl) (of_decide_eq_true (by kernel_rfl)) h0 bel lt0) trodAll_mk0), rfl, bel.frame _, fun h => by cases h⟩

theorem fnFiles_holds : Rows.FnFilesSaid :=
  OpenClaim.holds_of_wide 3 Tryd.f3 rfl rfl rfl rfl rfl rfl rfl ⟨rfl, rfl, rfl, rfl, rfl⟩ rfl rfl rfl rfl rfl (by kernel_rfl) Tryd.func3 (by kernel_rfl)
    (of_decide_eq_true (by kernel_rfl)) (by unfold Func.isWrapper; rw [if_neg (of_decide_eq_false (by kernel_rfl))]; exact ⟨rfl, rfl⟩)
    (fun os started H enc _ => fnFiles_lifted os started H enc)
theorem fnFiles_card_holds : Rows.FnFilesCardSaid :=
  Claim7.holds_tied_plain_at .later [] [.data, .pinned] true (true, "d538ec456936e30a48a48b77c7ef7b17fc21326df6f53c17d8e92513c77bef9b") false fnFiles_holds (fun _ h => by cases h) (by kernel_rfl) (fun _ h => by cases h) fnFiles_row_tie rfl ⟨rfl, rfl⟩ (by kernel_rfl) rfl
    (fun f fn hf hfn => by
      obtain rfl : f = 3 := Option.some.inj ((show Tryd.prog.funcNamed "loop.example/g03011/laws.FnFiles" = some 3 by kernel_rfl).symm.trans hf) |>.symm
      obtain rfl : fn = Tryd.f3 := (Option.some.inj (Tryd.func3.symm.trans hfn)).symm
      exact ⟨by kernel_rfl, fun j t ht => by
        rw [Tryd.params3] at ht
        have hm : t ∈ [22] := by simpa using Array.mem_of_getElem? ht
        have hall : ([22].all fun u => !Tryd.prog.wantsStandIn u) = true := by kernel_rfl
        exact (show Tryd.prog.wantsStandIn t = false by simpa using List.all_eq_true.1 hall t hm)⟩)
    (by kernel_rfl)
#print axioms fnFiles_card_holds

end Go.Proofs.YtnkidlahmplgnaaDoor
