/-
  Parts of the proof: IpI. Conditions: none.
-/
import Derived.Test.YtdmbhmhfjappcaaGreatDoorQIpP
import Derived.Test.YtdmbhmhfjappcaaGreatDoorQIpM
import Derived.Test.YtdmbhmhfjappcaaGreatDoorQIfI
import Derived.Test.YtdmbhmhfjappcaaGreatDoorQIvK
import Derived.Laws.Concat
namespace Go.Proofs.YtdmbhmhfjappcaaGreatDoor
open Go.ChangeShapes Go.WideShapes Go.ChangeAt Go.RowKit Go.Deep Go.Joins
open Go.ChangeMaps (open_string shut_string)
set_option linter.unusedVariables false
set_option linter.unusedSimpArgs false
set_option maxRecDepth 100000
theorem grown_below1 {lo : Nat} {w w2 w' : World} {b : Nat} (h : Below lo w w2) (hb : w2.grownBy w' (some b)) (hr : lo ≤ b) (hl : lo ≤ w2.heap.size) : Below lo w w' := below_grownK h hb (fun g hg => by injection hg with hg; omega) hl
theorem fn_wt {l : List FFunc} {x : FFunc} (h : x ∈ l) : x.wt ≤ FFunc.wts l := FFunc.wts_at l x h
theorem fnAt_at {l : List FFunc} {k : Nat} {f : FFunc} (h : l[k]? = some f) : fnAt l k = (!hasS (nmR FFunc.nm l k) (FFunc.nm f).toList && ifuV f) := by unfold fnAt; rw [h]
theorem clAt_at {l : List FFunc} {cs : List FClass} {k : Nat} {n a : ByteArray} {fs : List FField} {ms : List FMethod} (h : cs[k]? = some ⟨n, a, fs, ms⟩) : clAt l cs k = (!hasS (nmR FClass.nm cs k) n.toList && allK (fdAt fs) fs.length && allK (mtAt l ms) ms.length) := by unfold clAt; rw [h]
theorem fdAt_at {fs : List FField} {k : Nat} {n a : ByteArray} {b : Bool} {v : FValue} (h : fs[k]? = some ⟨n, a, b, v⟩) : fdAt fs k = (!hasS (nmR FField.nmF fs k) n.toList && goodF n && isV v && inB (vkind v) 0 3) := by unfold fdAt; rw [h]
theorem mtAt_at {l : List FFunc} {ms : List FMethod} {k : Nat} {n a f : ByteArray} {b c : Bool} (h : ms[k]? = some ⟨n, a, f, b, c⟩) : mtAt l ms k = mtB l (f ++ ⟨#[58, 58]⟩ ++ n) := by unfold mtAt; rw [h]
theorem mtB_none {l : List FFunc} {s : ByteArray} (h : fo FFunc.nm l s.toList = none) : mtB l s = false := by unfold mtB; rw [h]
theorem mtB_some {l : List FFunc} {s : ByteArray} {i : Nat} {f : FFunc} (h : fo FFunc.nm l s.toList = some i) (hf : l[i]? = some f) : mtB l s = (!isFl (FFunc.nm f) && f.usn == 0) := by unfold mtB; rw [h]; simp only [hf]
theorem c0_f {n a : ByteArray} {fs : List FField} {ms : List FMethod} {r : List FClass} (h : (n.toList == errL) = false) : c0B (⟨n, a, fs, ms⟩ :: r) = false := by
  cases fs with
  | nil => rfl
  | cons f l => rw [c0B, h]; rfl
set_option maxHeartbeats 4000000 in
theorem IsProgram_impl (z0 : List FFunc) (z1 : List FClass) (us : List Value) (w : World) (hw : FProgram.wt ⟨z0, z1⟩ ≤ 1000000000) (ok : FProgram.ok ⟨z0, z1⟩) (hV : TabV w) {B : Nat} (hB0 : B ≤ w.heap.size) (hr : RdVs w B (FProgram.c ⟨z0, z1⟩) us) :
    Calls Tryz.prog 7 #[.agg us.toArray] w fun e w' => e = .returned (.bool (prF z0 z1)) ∧ Below w.heap.size w w' := by
  rw [FProgram.c_eq] at hr
  obtain ⟨A0, c0, us0, rfl, r0, hr_0⟩ := hr.uns
  obtain ⟨A1, c1, us1, rfl, r1, hr_1⟩ := hr_0.uns
  obtain rfl := hr_1.un0
  rw [FProgram.wt_eq] at hw
  rw [FProgram.ok_eq] at ok
  have HC0 := Lib.hid (r0.up hB0)
  have HC1 := Lib.hid (r1.up hB0)
  have OK0 := Lib.hid (FFunc.oks_mem z0 ok.1)
  have OK1 := Lib.hid (FClass.oks_mem z1 ok.2)
  have HV := Lib.hid hV
  clear hr hr_0 hr_1 r0 r1 hB0 ok hV
  have hn0 : z0.length ≤ 9223372036854775807 := by omega
  have hn1 : z1.length ≤ 9223372036854775807 := by omega
  have hmm := @run_makeMap Tryz.prog
  have HB1 := Lib.hid ((Below.refl _ w).alloc (Nat.le_refl _) (.cells #[.slice A0 z0.length c0, .slice A1 z1.length c1] 31))
  have hp : prF z0 z1 = (decide (z0.length ≤ 5000) && allK (fnAt z0) z0.length && c0B z1 && allK (clAt z0 z1) z1.length) := rfl
  by_cases hf5 : z0.length ≤ 5000
  case neg =>
    have HG := Lib.hid (show prF z0 z1 = false by rw [hp, decide_eq_false hf5]; simp)
    have h5 : (5000 : Int) < (z0.length : Int) := by omega
    clear hp
    go_enter Tryz.func7, Tryz.ntmps7
    go_wp2_with fail
    go_ret
    exact ⟨ret_bool HG.out.symm, HB1.out⟩
  have h5 : ¬ (5000 : Int) < (z0.length : Int) := by omega
  rw [decide_eq_true hf5, Bool.true_and] at hp
  cases z1 with
  | nil =>
    have HG := Lib.hid (show prF z0 [] = false by rw [hp, show c0B [] = false from rfl]; simp)
    clear hp
    go_enter Tryz.func7, Tryz.ntmps7
    go_wp2_with fail
    go_ret
    exact ⟨ret_bool HG.out.symm, HB1.out⟩
  | cons cl0 cr =>
    obtain ⟨cs, hcs⟩ : ∃ cs, cl0 :: cr = cs := ⟨_, rfl⟩
    rw [hcs] at hw HC1 OK1 hn1 HB1 hp ⊢
    have hne : ¬ (cs.length : Int) = 0 := by rw [← hcs]; simp only [List.length_cons]; omega
    have hne2 : ((cs.length : Int) == 0) = false := beq_false_of_ne hne
    have HCS := Lib.hid hcs
    clear hcs
    have HP := Lib.hid hp
    clear hp
    go_enter Tryz.func7, Tryz.ntmps7
    go_wp2_with fail
    go_loopw [33] (fun i wr => ∃ k : Nat, k ≤ z0.length ∧ i = .int .i64 k ∧ (∀ j, j < k → fnAt z0 j = true) ∧ SeenI wr (w.heap.size + 1) k (fo FFunc.nm (z0.take k)) ∧ Blk wr w.heap.size 31 #[.slice A0 z0.length c0, .slice A1 cs.length c1] ∧ Below w.heap.size w wr) (fun i _ => z0.length - (intOf i).toNat)
    case atStart => exact ⟨0, Nat.zero_le _, rfl, fun j hj => absurd hj (by omega), by have h := SeenI.made (w.alloc (.cells #[.slice A0 z0.length c0, .slice A1 cs.length c1] 31)); rw [size_alK] at h; exact h.to fun s => rfl, (Blk.new w _ _).alloc _, HB1.out.alloc (by simp) _⟩
    case round =>
      clear HB1
      obtain ⟨k, hk, rfl, hall, se, b0, hb0⟩ := hrel
      have hws : w.heap.size ≤ wr.heap.size := hb0.size
      have hsl := se.lt
      by_cases hlt : k < z0.length
      · obtain ⟨x, hx⟩ : ∃ x, z0[k]? = some x := ⟨_, List.getElem?_eq_getElem hlt⟩
        have hat := fnAt_at hx
        have hfo := fun hh => fo_succ (nm := FFunc.nm) hx hh
        obtain ⟨bc, offc, rfl, hblbc, hcc⟩ := RdC.at_ FFunc.len HC0.out hx
        have hfw := FFunc.wts_at z0 x (List.mem_of_getElem? hx)
        have hfk := OK0.out x (List.mem_of_getElem? hx)
        have hnn := fo_none (nm := FFunc.nm) (l := z0) (k := k) (s := (FFunc.nm x).toList)
        have HX := Lib.hid hx
        clear hx
        obtain ⟨y0, y1, y2, y3, y4, y5⟩ := x
        rw [FFunc.c_eq] at hcc
        obtain ⟨u0, e0, q0⟩ := hcc 0 _ rfl
        obtain rfl := q0.val
        have Hg0 := Lib.hid (fun W (hb : Below w.heap.size w W) => (hb.cell (p := ⟨bc, offc + k * 6, none⟩) hblbc).trans (show w.cell? ⟨bc, offc + k * 6, none⟩ = some (.string y0) from by simpa using e0))
        have g0 := Hg0.out _ hb0
        obtain ⟨u1, e1, q1⟩ := hcc 1 _ rfl
        obtain ⟨Y1, x1, rfl⟩ := q1.form
        have Hg1 := Lib.hid (fun W (hb : Below w.heap.size w W) => (hb.cell (p := ⟨bc, offc + k * 6 + 1, none⟩) hblbc).trans (show w.cell? ⟨bc, offc + k * 6 + 1, none⟩ = some (.slice Y1 y1.length x1) from by simpa using e1))
        have g1 := Hg1.out _ hb0
        obtain ⟨u2, e2, q2⟩ := hcc 2 _ rfl
        obtain ⟨Y2, x2, rfl⟩ := q2.form
        have Hg2 := Lib.hid (fun W (hb : Below w.heap.size w W) => (hb.cell (p := ⟨bc, offc + k * 6 + 2, none⟩) hblbc).trans (show w.cell? ⟨bc, offc + k * 6 + 2, none⟩ = some (.slice Y2 y2.length x2) from by simpa using e2))
        have g2 := Hg2.out _ hb0
        obtain ⟨u3, e3, q3⟩ := hcc 3 _ rfl
        obtain ⟨Y3, x3, rfl⟩ := q3.form
        have Hg3 := Lib.hid (fun W (hb : Below w.heap.size w W) => (hb.cell (p := ⟨bc, offc + k * 6 + 3, none⟩) hblbc).trans (show w.cell? ⟨bc, offc + k * 6 + 3, none⟩ = some (.slice Y3 y3.length x3) from by simpa using e3))
        have g3 := Hg3.out _ hb0
        obtain ⟨u4, e4, q4⟩ := hcc 4 _ rfl
        obtain rfl := q4.val
        have Hg4 := Lib.hid (fun W (hb : Below w.heap.size w W) => (hb.cell (p := ⟨bc, offc + k * 6 + 4, none⟩) hblbc).trans (show w.cell? ⟨bc, offc + k * 6 + 4, none⟩ = some (.bool y4) from by simpa using e4))
        have g4 := Hg4.out _ hb0
        obtain ⟨u5, e5, q5⟩ := hcc 5 _ rfl
        obtain ⟨Y5, x5, rfl⟩ := q5.form
        have Hg5 := Lib.hid (fun W (hb : Below w.heap.size w W) => (hb.cell (p := ⟨bc, offc + k * 6 + 5, none⟩) hblbc).trans (show w.cell? ⟨bc, offc + k * 6 + 5, none⟩ = some (.slice Y5 y5.length x5) from by simpa using e5))
        have g5 := Hg5.out _ hb0
        have Qg1 := Lib.hid q1
        have Qg2 := Lib.hid q2
        have Qg3 := Lib.hid q3
        have Qg5 := Lib.hid q5
        clear hcc e0 q0 e1 q1 e2 q2 e3 q3 e4 q4 e5 q5
        have hfw2 : FFunc.wt ⟨y0, y1, y2, y3, y4, y5⟩ ≤ 1000000000 := by omega
        have hsm : y0.size ≤ maxLen := by have := FFunc.wt_eq y0 y1 y2 y3 y4 y5; unfold maxLen; omega
        have hkm : k < maxLen := by unfold maxLen; omega
        have hki : k ≤ 9223372036854775807 := by omega
        have HAL := Lib.hid hall
        have HB1 := Lib.hid (hb0.alloc hb0.size (.cells #[.string y0, .slice Y1 y1.length x1, .slice Y2 y2.length x2, .slice Y3 y3.length x3, .bool y4, .slice Y5 y5.length x5] 51))
        have SE1 := Lib.hid (se.alloc (.cells #[.string y0, .slice Y1 y1.length x1, .slice Y2 y2.length x2, .slice Y3 y3.length x3, .bool y4, .slice Y5 y5.length x5] 51))
        have B1 := Lib.hid (b0.alloc (.cells #[.string y0, .slice Y1 y1.length x1, .slice Y2 y2.length x2, .slice Y3 y3.length x3, .bool y4, .slice Y5 y5.length x5] 51))
        clear hall hb0 se b0
        have HFS := Lib.hid hfo
        clear hfo
        rw [show FFunc.nm ⟨y0, y1, y2, y3, y4, y5⟩ = y0 from rfl] at hat hnn
        cases hh : hasS (nmR FFunc.nm z0 k) y0.toList with
        | true =>
          have HFO := Lib.hid (show (fo FFunc.nm (z0.take k) y0.toList).isSome = true from by rw [hh] at hnn; cases h : fo FFunc.nm (z0.take k) y0.toList with
            | none => rw [h] at hnn; cases hnn
            | some i => rfl)
          have HG := Lib.hid (show false = prF z0 cs from by rw [HP.out, allK_f hlt (by rw [hat, hh]; rfl)]; rfl)
          clear hat hnn
          go_wp2_with (first | (at_lookup; refine wpList_look_int rfl _ _ 60 rfl Tryz.underlying60 (w.heap.size + 1) k (fo FFunc.nm (z0.take k)) rfl SE1.out y0 hsm rfl ?_; intro v hv; rw [HFO.out]))
          go_ret
          exact ⟨ret_bool HG.out, HB1.out⟩
        | false =>
          have hno : fo FFunc.nm (z0.take k) y0.toList = none := by rw [hh] at hnn; cases h : fo FFunc.nm (z0.take k) y0.toList with
            | none => rfl
            | some i => rw [h] at hnn; cases hnn
          have HFO := Lib.hid (show (fo FFunc.nm (z0.take k) y0.toList).isSome = false from by rw [hno]; rfl)
          rw [hh, show ifuV ⟨y0, y1, y2, y3, y4, y5⟩ = ifuF y0 y1 y2 y3 y4 y5 from rfl] at hat
          cases hif : ifuF y0 y1 y2 y3 y4 y5 with
          | false =>
            have HIF := Lib.hid hif
            have HG := Lib.hid (show false = prF z0 cs from by rw [HP.out, allK_f hlt (by rw [hat, hif]; rfl)]; rfl)
            clear hat hnn
            go_wp2_with (first | (at_lookup; refine wpList_look_int rfl _ _ 60 rfl Tryz.underlying60 (w.heap.size + 1) k (fo FFunc.nm (z0.take k)) rfl SE1.out y0 hsm rfl ?_; intro v hv; rw [HFO.out]) | (go_at_call 19; refine (IsFunc_impl y0 y1 y2 y3 y4 y5 [.string y0, .slice Y1 y1.length x1, .slice Y2 y2.length x2, .slice Y3 y3.length x3, .bool y4, .slice Y5 y5.length x5] _ hfw2 hfk (B := w.heap.size) HB1.out.size (by rw [FFunc.c_eq]; exact RdVs.cons (by unfold RdC; rfl) (RdVs.cons (Qg1.out.below HB1.out (Nat.le_refl _)) (RdVs.cons (Qg2.out.below HB1.out (Nat.le_refl _)) (RdVs.cons (Qg3.out.below HB1.out (Nat.le_refl _)) (RdVs.cons (by unfold RdC; rfl) (RdVs.cons (Qg5.out.below HB1.out (Nat.le_refl _)) (RdVs.nil _ _)))))))).mono ?_; rw [HIF.out]; rintro e w2 ⟨rfl, hb2⟩; have HB2 := Lib.hid (HB1.out.trans (hb2.mono HB1.out.size)); have E2 := Lib.hid ((Blk.new wr 51 #[.string y0, .slice Y1 y1.length x1, .slice Y2 y2.length x2, .slice Y3 y3.length x3, .bool y4, .slice Y5 y5.length x5]).below hb2 (Nat.le_refl _)); have E2l := E2.out.lt; have e20 := E2.out.cell 0; have SE2 := Lib.hid (SE1.out.below hb2 (Nat.le_refl _)); have B2 := Lib.hid (B1.out.below hb2 (Nat.le_refl _))))
            go_ret
            exact ⟨ret_bool HG.out, HB2.out⟩
          | true =>
            have HIF := Lib.hid hif
            have HAL2 := Lib.hid (on_succ HAL.out (by rw [hat, hif]; rfl))
            have HTO := Lib.hid (HFS.out hno)
            clear hat hnn
            go_wp2_with (first | (at_lookup; refine wpList_look_int rfl _ _ 60 rfl Tryz.underlying60 (w.heap.size + 1) k (fo FFunc.nm (z0.take k)) rfl SE1.out y0 hsm rfl ?_; intro v hv; rw [HFO.out]) | (go_at_call 19; refine (IsFunc_impl y0 y1 y2 y3 y4 y5 [.string y0, .slice Y1 y1.length x1, .slice Y2 y2.length x2, .slice Y3 y3.length x3, .bool y4, .slice Y5 y5.length x5] _ hfw2 hfk (B := w.heap.size) HB1.out.size (by rw [FFunc.c_eq]; exact RdVs.cons (by unfold RdC; rfl) (RdVs.cons (Qg1.out.below HB1.out (Nat.le_refl _)) (RdVs.cons (Qg2.out.below HB1.out (Nat.le_refl _)) (RdVs.cons (Qg3.out.below HB1.out (Nat.le_refl _)) (RdVs.cons (by unfold RdC; rfl) (RdVs.cons (Qg5.out.below HB1.out (Nat.le_refl _)) (RdVs.nil _ _)))))))).mono ?_; rw [HIF.out]; rintro e w2 ⟨rfl, hb2⟩; have HB2 := Lib.hid (HB1.out.trans (hb2.mono HB1.out.size)); have E2 := Lib.hid ((Blk.new wr 51 #[.string y0, .slice Y1 y1.length x1, .slice Y2 y2.length x2, .slice Y3 y3.length x3, .bool y4, .slice Y5 y5.length x5]).below hb2 (Nat.le_refl _)); have E2l := E2.out.lt; have e20 := E2.out.cell 0; have SE2 := Lib.hid (SE1.out.below hb2 (Nat.le_refl _)); have B2 := Lib.hid (B1.out.below hb2 (Nat.le_refl _))) | (at_mapUpdate; go_must (refine wpList_put_int rfl _ _ _ 60 rfl Tryz.underlying60 (w.heap.size + 1) k (fo FFunc.nm (z0.take k)) rfl SE2.out hkm y0 hsm k hki rfl rfl ?_); intro v1 hs1 hg1))
            go_roundw
            case rel => exact ⟨k + 1, by omega, by go_num, HAL2.out, hs1.to HTO.out, blk_grownK B2.out hg1 (by simp), grown_below1 HB2.out hg1 (by omega) HB2.out.size⟩
            case measure => simp [intOf]; omega
      · obtain rfl : k = z0.length := by omega
        obtain ⟨wA, rfl⟩ : ∃ W : World, W = wr := ⟨_, rfl⟩
        have HP2 := Lib.hid (show prF z0 cs = (c0B cs && allK (clAt z0 cs) cs.length) from by rw [HP.out, allK_t hall]; simp)
        clear HP hall
        rw [List.take_length] at se
        have hx : cs[0]? = some cl0 := by rw [← HCS.out]; rfl
        obtain ⟨bc, offc, rfl, hblbc, hcc⟩ := RdC.at_ FClass.len HC1.out hx
        clear hx
        have hcw := FClass.wts_at cs cl0 (by rw [← HCS.out]; simp)
        obtain ⟨y0, y1, y2, y3⟩ := cl0
        rw [FClass.wt_eq] at hcw
        rw [FClass.c_eq] at hcc
        obtain ⟨u0, e0, q0⟩ := hcc 0 _ rfl
        obtain rfl := q0.val
        have Hg0 := Lib.hid (fun W (hb : Below w.heap.size w W) => (hb.cell (p := ⟨bc, offc, none⟩) hblbc).trans (show w.cell? ⟨bc, offc, none⟩ = some (.string y0) from by simpa using e0))
        have g0 := Hg0.out _ hb0
        obtain ⟨u1, e1, q1⟩ := hcc 1 _ rfl
        obtain rfl := q1.val
        have Hg1 := Lib.hid (fun W (hb : Below w.heap.size w W) => (hb.cell (p := ⟨bc, offc + 1, none⟩) hblbc).trans (show w.cell? ⟨bc, offc + 1, none⟩ = some (.string y1) from by simpa using e1))
        have g1 := Hg1.out _ hb0
        obtain ⟨u2, e2, q2⟩ := hcc 2 _ rfl
        obtain ⟨G2, x2, rfl⟩ := q2.form
        have Hg2 := Lib.hid (fun W (hb : Below w.heap.size w W) => (hb.cell (p := ⟨bc, offc + 2, none⟩) hblbc).trans (show w.cell? ⟨bc, offc + 2, none⟩ = some (.slice G2 y2.length x2) from by simpa using e2))
        have g2 := Hg2.out _ hb0
        obtain ⟨u3, e3, q3⟩ := hcc 3 _ rfl
        obtain ⟨G3, x3, rfl⟩ := q3.form
        have Hg3 := Lib.hid (fun W (hb : Below w.heap.size w W) => (hb.cell (p := ⟨bc, offc + 3, none⟩) hblbc).trans (show w.cell? ⟨bc, offc + 3, none⟩ = some (.slice G3 y3.length x3) from by simpa using e3))
        have g3 := Hg3.out _ hb0
        have Qg2 := Lib.hid q2
        have Qg3 := Lib.hid q3
        clear hcc e0 q0 e1 q1 e2 q2 e3 q3
        have HB1 := Lib.hid (hb0.alloc hb0.size (.cells #[.string y0, .string y1, .slice G2 y2.length x2, .slice G3 y3.length x3] 40))
        have SE1 := Lib.hid (se.alloc (.cells #[.string y0, .string y1, .slice G2 y2.length x2, .slice G3 y3.length x3] 40))
        have B1 := Lib.hid (b0.alloc (.cells #[.string y0, .string y1, .slice G2 y2.length x2, .slice G3 y3.length x3] 40))
        have hc0 : c0B cs = c0B (⟨y0, y1, y2, y3⟩ :: cr) := by rw [HCS.out]
        have b01 := b0.cell 1
        have b0l := b0.lt
        have hws : w.heap.size ≤ wA.heap.size := hb0.size
        clear hb0 se b0
        have hcl : (0 : Int) < (cs.length : Int) := by omega
        have hcl2 : 0 < cs.length := by omega
        cases hq : (y0.toList == errL) with
        | false =>
          have hq2 : (y0.toList == [69, 114, 114, 111, 114]) = false := hq
          have HG := Lib.hid (show false = prF z0 cs from by rw [HP2.out, hc0, c0_f hq]; rfl)
          clear hc0
          go_wp2_with fail
          go_ret
          exact ⟨ret_bool HG.out, HB1.out⟩
        | true =>
          have hq2 : (y0.toList == [69, 114, 114, 111, 114]) = true := hq
          cases y2 with
          | nil =>
            have HG := Lib.hid (show false = prF z0 cs from by rw [HP2.out, hc0, show c0B (⟨y0, y1, [], y3⟩ :: cr) = false from rfl]; rfl)
            clear hc0
            go_wp2_with fail
            go_ret
            exact ⟨ret_bool HG.out, HB1.out⟩
          | cons fd fr =>
            have hfl : (0 : Int) < ((fd :: fr).length : Int) := by simp only [List.length_cons]; omega
            have hfl0 : ¬ ((fd :: fr).length : Int) = 0 := by omega
            obtain ⟨fs, hfs⟩ : ∃ fs, fd :: fr = fs := ⟨_, rfl⟩
            rw [hfs] at Qg2 HB1 SE1 B1 hfl hfl0 hc0 g2
            have hx : fs[0]? = some fd := by rw [← hfs]; rfl
            obtain ⟨bd, offd, rfl, hblbd, hcc⟩ := RdC.at_ FField.len Qg2.out hx
            clear hx
            have hfl1 : 0 < fs.length := by omega
            have hc1 : c0B (⟨y0, y1, fs, y3⟩ :: cr) = ((FField.nmF fd).toList == msgL) := by rw [← hfs, c0B, hq]; rfl
            rw [hc1] at hc0
            clear hfs hc1
            obtain ⟨f0, f1, f2, ⟨f3, f4, f5, f6, f7⟩⟩ := fd
            rw [FField.c_eq] at hcc
            obtain ⟨u0, e0, q0⟩ := hcc 0 _ rfl
            obtain rfl := q0.val
            have Hd0 := Lib.hid (fun W (hb : Below w.heap.size w W) => (hb.cell (p := ⟨bd, offd, none⟩) hblbd).trans (show w.cell? ⟨bd, offd, none⟩ = some (.string f0) from by simpa using e0))
            have d0 := Hd0.out _ HB1.out
            obtain ⟨u1, e1, q1⟩ := hcc 1 _ rfl
            obtain rfl := q1.val
            have Hd1 := Lib.hid (fun W (hb : Below w.heap.size w W) => (hb.cell (p := ⟨bd, offd + 1, none⟩) hblbd).trans (show w.cell? ⟨bd, offd + 1, none⟩ = some (.string f1) from by simpa using e1))
            have d1 := Hd1.out _ HB1.out
            obtain ⟨u2, e2, q2⟩ := hcc 2 _ rfl
            obtain rfl := q2.val
            have Hd2 := Lib.hid (fun W (hb : Below w.heap.size w W) => (hb.cell (p := ⟨bd, offd + 2, none⟩) hblbd).trans (show w.cell? ⟨bd, offd + 2, none⟩ = some (.bool f2) from by simpa using e2))
            have d2 := Hd2.out _ HB1.out
            obtain ⟨u3, e3, q3⟩ := hcc 3 _ rfl
            obtain rfl := q3.val
            have Hd3 := Lib.hid (fun W (hb : Below w.heap.size w W) => (hb.cell (p := ⟨bd, offd + 3, none⟩) hblbd).trans (show w.cell? ⟨bd, offd + 3, none⟩ = some (.int .i64 f3) from by simpa using e3))
            have d3 := Hd3.out _ HB1.out
            obtain ⟨u4, e4, q4⟩ := hcc 4 _ rfl
            obtain rfl := q4.val
            have Hd4 := Lib.hid (fun W (hb : Below w.heap.size w W) => (hb.cell (p := ⟨bd, offd + 4, none⟩) hblbd).trans (show w.cell? ⟨bd, offd + 4, none⟩ = some (.int .i64 f4) from by simpa using e4))
            have d4 := Hd4.out _ HB1.out
            obtain ⟨u5, e5, q5⟩ := hcc 5 _ rfl
            obtain rfl := q5.val
            have Hd5 := Lib.hid (fun W (hb : Below w.heap.size w W) => (hb.cell (p := ⟨bd, offd + 5, none⟩) hblbd).trans (show w.cell? ⟨bd, offd + 5, none⟩ = some (.string f5) from by simpa using e5))
            have d5 := Hd5.out _ HB1.out
            obtain ⟨u6, e6, q6⟩ := hcc 6 _ rfl
            obtain rfl := q6.val
            have Hd6 := Lib.hid (fun W (hb : Below w.heap.size w W) => (hb.cell (p := ⟨bd, offd + 6, none⟩) hblbd).trans (show w.cell? ⟨bd, offd + 6, none⟩ = some (.int .i64 f6) from by simpa using e6))
            have d6 := Hd6.out _ HB1.out
            obtain ⟨u7, e7, q7⟩ := hcc 7 _ rfl
            obtain ⟨F7, p7, rfl⟩ := q7.form
            have Hd7 := Lib.hid (fun W (hb : Below w.heap.size w W) => (hb.cell (p := ⟨bd, offd + 7, none⟩) hblbd).trans (show w.cell? ⟨bd, offd + 7, none⟩ = some (.slice F7 f7.length p7) from by simpa using e7))
            have d7 := Hd7.out _ HB1.out
            have Qd7 := Lib.hid q7
            clear hcc e0 q0 e1 q1 e2 q2 e3 q3 e4 q4 e5 q5 e6 q6 e7 q7
            cases hqm : (f0.toList == msgL) with
            | false =>
              have hqm2 : (f0.toList == [109, 101, 115, 115, 97, 103, 101]) = false := hqm
              have HG := Lib.hid (show false = prF z0 cs from by rw [HP2.out, hc0, show FField.nmF ⟨f0, f1, f2, ⟨f3, f4, f5, f6, f7⟩⟩ = f0 from rfl, hqm]; rfl)
              clear hc0
              go_wp2_with fail
              go_ret
              exact ⟨ret_bool HG.out, HB1.out⟩
            | true =>
              have hqm2 : (f0.toList == [109, 101, 115, 115, 97, 103, 101]) = true := hqm
              have HP3 := Lib.hid (show prF z0 cs = allK (clAt z0 cs) cs.length from by rw [HP2.out, hc0, show FField.nmF ⟨f0, f1, f2, ⟨f3, f4, f5, f6, f7⟩⟩ = f0 from rfl, hqm]; rfl)
              clear hc0 HP2
              go_wp2_with fail
              have SEM := Lib.hid (by have h : Seen Tryz.prog 9 4 _ _ 0 [] := Seen.made (wA.alloc (.cells #[.string y0, .string y1, .slice (some ⟨bd, offd, none⟩) fs.length x2, .slice G3 y3.length x3] 40)); rw [size_alK] at h; exact h)
              go_loopw [81] (fun i wr => ∃ k : Nat, k ≤ cs.length ∧ i = .int .i64 k ∧ (∀ j, j < k → clAt z0 cs j = true) ∧ Seen Tryz.prog 9 4 wr (wA.heap.size + 1) k (nmR FClass.nm cs k) ∧ SeenI wr (w.heap.size + 1) z0.length (fo FFunc.nm z0) ∧ Blk wr w.heap.size 31 #[.slice A0 z0.length c0, .slice (some ⟨bc, offc, none⟩) cs.length c1] ∧ Below w.heap.size w wr) (fun i _ => cs.length - (intOf i).toNat)
              case atStart => exact ⟨0, Nat.zero_le _, rfl, fun j hj => absurd hj (by omega), SEM.out, SE1.out.alloc _, B1.out.alloc _, HB1.out.alloc HB1.out.size _⟩
              case round =>
                clear SEM SE1 B1 HB1 b01 b0l
                obtain ⟨k, hk, rfl, hall, sm, se, b0, hb0⟩ := hrel
                obtain ⟨wB, rfl⟩ : ∃ W : World, W = wr := ⟨_, rfl⟩
                have hws : w.heap.size ≤ wB.heap.size := hb0.size
                have hs2 := sm.lt
                have hs1_ := se.lt
                by_cases hlt : k < cs.length
                · have hx : cs[k]? = some cs[k] := List.getElem?_eq_getElem hlt
                  obtain ⟨x, hxe⟩ : ∃ x, cs[k] = x := ⟨_, rfl⟩
                  rw [hxe] at hx
                  clear hxe
                  obtain ⟨bn, offn, hbn, hblbn, hcc⟩ := RdC.at_ FClass.len HC1.out hx
                  simp only [Option.some.injEq, Addr.mk.injEq, and_true] at hbn
                  obtain ⟨rfl, rfl⟩ := hbn
                  have hnw := FClass.wts_at cs x (List.mem_of_getElem? hx)
                  have hnr := nmR_succ (nm := FClass.nm) hx
                  obtain ⟨n0, n1, n2, n3⟩ := x
                  have hat := clAt_at (l := z0) hx
                  clear hx
                  rw [FClass.wt_eq] at hnw
                  rw [FClass.c_eq] at hcc
                  obtain ⟨u0, e0, q0⟩ := hcc 0 _ rfl
                  obtain rfl := q0.val
                  have Hnn0 := Lib.hid (fun W (hb : Below w.heap.size w W) => (hb.cell (p := ⟨bc, offc + k * 4, none⟩) hblbc).trans (show w.cell? ⟨bc, offc + k * 4, none⟩ = some (.string n0) from by simpa using e0))
                  have nn0 := Hnn0.out _ hb0
                  obtain ⟨u1, e1, q1⟩ := hcc 1 _ rfl
                  obtain rfl := q1.val
                  have Hnn1 := Lib.hid (fun W (hb : Below w.heap.size w W) => (hb.cell (p := ⟨bc, offc + k * 4 + 1, none⟩) hblbc).trans (show w.cell? ⟨bc, offc + k * 4 + 1, none⟩ = some (.string n1) from by simpa using e1))
                  have nn1 := Hnn1.out _ hb0
                  obtain ⟨u2, e2, q2⟩ := hcc 2 _ rfl
                  obtain ⟨H2, h2, rfl⟩ := q2.form
                  have Hnn2 := Lib.hid (fun W (hb : Below w.heap.size w W) => (hb.cell (p := ⟨bc, offc + k * 4 + 2, none⟩) hblbc).trans (show w.cell? ⟨bc, offc + k * 4 + 2, none⟩ = some (.slice H2 n2.length h2) from by simpa using e2))
                  have nn2 := Hnn2.out _ hb0
                  obtain ⟨u3, e3, q3⟩ := hcc 3 _ rfl
                  obtain ⟨H3, h3, rfl⟩ := q3.form
                  have Hnn3 := Lib.hid (fun W (hb : Below w.heap.size w W) => (hb.cell (p := ⟨bc, offc + k * 4 + 3, none⟩) hblbc).trans (show w.cell? ⟨bc, offc + k * 4 + 3, none⟩ = some (.slice H3 n3.length h3) from by simpa using e3))
                  have nn3 := Hnn3.out _ hb0
                  have Qnn2 := Lib.hid q2
                  have Qnn3 := Lib.hid q3
                  clear hcc e0 q0 e1 q1 e2 q2 e3 q3
                  rw [show FClass.nm ⟨n0, n1, n2, n3⟩ = n0 from rfl] at hnr
                  have hsm : n0.size ≤ maxLen := by unfold maxLen; omega
                  have hkm : k < maxLen := by unfold maxLen; omega
                  have hl2 : n2.length ≤ 9223372036854775807 := by omega
                  have hl3 : n3.length ≤ 9223372036854775807 := by omega
                  have HB1 := Lib.hid (hb0.alloc hb0.size (.cells #[.string n0, .string n1, .slice H2 n2.length h2, .slice H3 n3.length h3] 40))
                  have SM1 := Lib.hid (sm.alloc (.cells #[.string n0, .string n1, .slice H2 n2.length h2, .slice H3 n3.length h3] 40))
                  have SE1 := Lib.hid (se.alloc (.cells #[.string n0, .string n1, .slice H2 n2.length h2, .slice H3 n3.length h3] 40))
                  have B1 := Lib.hid (b0.alloc (.cells #[.string n0, .string n1, .slice H2 n2.length h2, .slice H3 n3.length h3] 40))
                  have C1 := Lib.hid (Blk.new wB 40 #[.string n0, .string n1, .slice H2 n2.length h2, .slice H3 n3.length h3])
                  have HAL := Lib.hid hall
                  have HNR := Lib.hid hnr
                  clear hall sm se b0 hb0 hnr
                  cases hh : hasS (nmR FClass.nm cs k) n0.toList with
                  | true =>
                    have HAS := Lib.hid hh
                    have HG := Lib.hid (show false = prF z0 cs from by rw [HP3.out, allK_f hlt (by rw [hat, hh]; rfl)])
                    clear hat
                    go_wp2_with (at_lookup; refine wpList_look_seen_g _ rfl _ _ 62 rfl 9 4 Tryz.underlying9 Tryz.underlying4 (fun W => by kernel_rfl) Tryz.underlying62 (wA.heap.size + 1) k (nmR FClass.nm cs k) rfl SM1.out n0 hsm rfl ?_; rw [HAS.out])
                    go_ret
                    exact ⟨ret_bool HG.out, HB1.out⟩
                  | false =>
                    have HAS := Lib.hid hh
                    rw [hh] at hat
                    have HAT := Lib.hid hat
                    clear hat
                    go_wp2_with (first | (at_lookup; refine wpList_look_seen_g _ rfl _ _ 62 rfl 9 4 Tryz.underlying9 Tryz.underlying4 (fun W => by kernel_rfl) Tryz.underlying62 (wA.heap.size + 1) k (nmR FClass.nm cs k) rfl SM1.out n0 hsm rfl ?_; rw [HAS.out]) | (at_mapUpdate; go_must (refine wpList_put_seen _ rfl _ _ _ 62 rfl 9 4 Tryz.underlying9 Tryz.underlying4 Tryz.underlying62 (wA.heap.size + 1) k (nmR FClass.nm cs k) rfl SM1.out hkm n0 hsm rfl rfl ?_); intro v1 hs1 hg1; have C2v := Lib.hid (blk_grownK C1.out hg1 (by simp; omega)); have c22 := C2v.out.cell 2; have hlv := C2v.out.lt))
                    rw [← HNR.out] at hs1
                    have C2 := Lib.hid ((blk_grownK C1.out hg1 (by simp; omega)).alloc (.map #[] 0))
                    have SM2 := Lib.hid (hs1.alloc (.map #[] 0))
                    have SE2 := Lib.hid ((SE1.out.kept hg1 (by simp; omega)).alloc (.map #[] 0))
                    have B2 := Lib.hid ((blk_grownK B1.out hg1 (by simp; omega)).alloc (.map #[] 0))
                    have HB2 := Lib.hid ((grown_below1 HB1.out hg1 (by omega) HB1.out.size).alloc (Nat.le_trans HB1.out.size hg1.size) (.map #[] 0))
                    have hv1 := hg1.size
                    rw [size_alK] at hv1
                    clear hs1 hg1 C1 SM1 SE1 B1 C2v c22
                    have SEF := Lib.hid (Seen.made v1 : Seen Tryz.prog 9 4 _ _ 0 [])
                    have HVS := Lib.hid (show wB.heap.size + 1 ≤ v1.heap.size from hv1)
                    have HCB := Lib.hid HB2.out.size
                    skip
                    go_loopw [96] (fun i wr => ∃ q : Nat, q ≤ n2.length ∧ i = .int .i64 q ∧ (∀ j, j < q → fdAt n2 j = true) ∧ Seen Tryz.prog 9 4 wr v1.heap.size q (nmR FField.nmF n2 q) ∧ Seen Tryz.prog 9 4 wr (wA.heap.size + 1) (k + 1) (nmR FClass.nm cs (k + 1)) ∧ SeenI wr (w.heap.size + 1) z0.length (fo FFunc.nm z0) ∧ Blk wr w.heap.size 31 #[.slice A0 z0.length c0, .slice (some ⟨bc, offc, none⟩) cs.length c1] ∧ Blk wr wB.heap.size 40 #[.string n0, .string n1, .slice H2 n2.length h2, .slice H3 n3.length h3] ∧ Below w.heap.size w wr) (fun i _ => n2.length - (intOf i).toNat)
                    case atStart => exact ⟨0, Nat.zero_le _, rfl, fun j hj => absurd hj (by omega), SEF.out, SM2.out, SE2.out, B2.out, C2.out, HB2.out⟩
                    case round =>
                      clear SEF SM2 SE2 B2 C2 HB2
                      obtain ⟨q, hq9, rfl, hfa, sf, sm, se, b0, cb, hb0⟩ := hrel
                      obtain ⟨wC, rfl⟩ : ∃ W : World, W = wr := ⟨_, rfl⟩
                      have hwc : w.heap.size ≤ wC.heap.size := hb0.size
                      have hs3 := sf.lt
                      have hs2 := sm.lt
                      have hs1_ := se.lt
                      have hcl := cb.lt
                      by_cases hlq : q < n2.length
                      · obtain ⟨x, hx⟩ : ∃ x, n2[q]? = some x := ⟨_, List.getElem?_eq_getElem hlq⟩
                        have hfr := nmR_succ (nm := FField.nmF) hx
                        have hfw := FField.wts_at n2 x (List.mem_of_getElem? hx)
                        obtain ⟨be, offe, hbe, hblbe, hcc⟩ := RdC.at_ FField.len Qnn2.out hx
                        obtain ⟨f0, f1, f2, ⟨f3, f4, f5, f6, f7⟩⟩ := x
                        have hat := fdAt_at hx
                        clear hx
                        rw [FField.wt_eq] at hfw
                        subst hbe
                        rw [FField.c_eq] at hcc
                        obtain ⟨u0, e0, q0⟩ := hcc 0 _ rfl
                        obtain rfl := q0.val
                        have Hd0 := Lib.hid (fun W (hb : Below w.heap.size w W) => (hb.cell (p := ⟨be, offe + q * 8, none⟩) hblbe).trans (show w.cell? ⟨be, offe + q * 8, none⟩ = some (.string f0) from by simpa using e0))
                        have d0 := Hd0.out _ hb0
                        obtain ⟨u1, e1, q1⟩ := hcc 1 _ rfl
                        obtain rfl := q1.val
                        have Hd1 := Lib.hid (fun W (hb : Below w.heap.size w W) => (hb.cell (p := ⟨be, offe + q * 8 + 1, none⟩) hblbe).trans (show w.cell? ⟨be, offe + q * 8 + 1, none⟩ = some (.string f1) from by simpa using e1))
                        have d1 := Hd1.out _ hb0
                        obtain ⟨u2, e2, q2⟩ := hcc 2 _ rfl
                        obtain rfl := q2.val
                        have Hd2 := Lib.hid (fun W (hb : Below w.heap.size w W) => (hb.cell (p := ⟨be, offe + q * 8 + 2, none⟩) hblbe).trans (show w.cell? ⟨be, offe + q * 8 + 2, none⟩ = some (.bool f2) from by simpa using e2))
                        have d2 := Hd2.out _ hb0
                        obtain ⟨u3, e3, q3⟩ := hcc 3 _ rfl
                        obtain rfl := q3.val
                        have Hd3 := Lib.hid (fun W (hb : Below w.heap.size w W) => (hb.cell (p := ⟨be, offe + q * 8 + 3, none⟩) hblbe).trans (show w.cell? ⟨be, offe + q * 8 + 3, none⟩ = some (.int .i64 f3) from by simpa using e3))
                        have d3 := Hd3.out _ hb0
                        obtain ⟨u4, e4, q4⟩ := hcc 4 _ rfl
                        obtain rfl := q4.val
                        have Hd4 := Lib.hid (fun W (hb : Below w.heap.size w W) => (hb.cell (p := ⟨be, offe + q * 8 + 4, none⟩) hblbe).trans (show w.cell? ⟨be, offe + q * 8 + 4, none⟩ = some (.int .i64 f4) from by simpa using e4))
                        have d4 := Hd4.out _ hb0
                        obtain ⟨u5, e5, q5⟩ := hcc 5 _ rfl
                        obtain rfl := q5.val
                        have Hd5 := Lib.hid (fun W (hb : Below w.heap.size w W) => (hb.cell (p := ⟨be, offe + q * 8 + 5, none⟩) hblbe).trans (show w.cell? ⟨be, offe + q * 8 + 5, none⟩ = some (.string f5) from by simpa using e5))
                        have d5 := Hd5.out _ hb0
                        obtain ⟨u6, e6, q6⟩ := hcc 6 _ rfl
                        obtain rfl := q6.val
                        have Hd6 := Lib.hid (fun W (hb : Below w.heap.size w W) => (hb.cell (p := ⟨be, offe + q * 8 + 6, none⟩) hblbe).trans (show w.cell? ⟨be, offe + q * 8 + 6, none⟩ = some (.int .i64 f6) from by simpa using e6))
                        have d6 := Hd6.out _ hb0
                        obtain ⟨u7, e7, q7⟩ := hcc 7 _ rfl
                        obtain ⟨F7, p7, rfl⟩ := q7.form
                        have Hd7 := Lib.hid (fun W (hb : Below w.heap.size w W) => (hb.cell (p := ⟨be, offe + q * 8 + 7, none⟩) hblbe).trans (show w.cell? ⟨be, offe + q * 8 + 7, none⟩ = some (.slice F7 f7.length p7) from by simpa using e7))
                        have d7 := Hd7.out _ hb0
                        have Qd7 := Lib.hid q7
                        clear hcc e0 q0 e1 q1 e2 q2 e3 q3 e4 q4 e5 q5 e6 q6 e7 q7
                        rw [show FField.nmF ⟨f0, f1, f2, ⟨f3, f4, f5, f6, f7⟩⟩ = f0 from rfl] at hfr
                        have hsm : f0.size ≤ maxLen := by unfold maxLen; omega
                        have hkm : q < maxLen := by unfold maxLen; omega
                        have hxo : f0.size ≤ 9223372036854775807 := by omega
                        have hvw : FValue.wt ⟨f3, f4, f5, f6, f7⟩ ≤ 1000000000 := by rw [FValue.wt_eq]; omega
                        have HB1 := Lib.hid (hb0.alloc hb0.size (.cells #[.string f0, .string f1, .bool f2, .int .i64 f3, .int .i64 f4, .string f5, .int .i64 f6, .slice F7 f7.length p7] 45))
                        have SF1 := Lib.hid (sf.alloc (.cells #[.string f0, .string f1, .bool f2, .int .i64 f3, .int .i64 f4, .string f5, .int .i64 f6, .slice F7 f7.length p7] 45))
                        have SM1 := Lib.hid (sm.alloc (.cells #[.string f0, .string f1, .bool f2, .int .i64 f3, .int .i64 f4, .string f5, .int .i64 f6, .slice F7 f7.length p7] 45))
                        have SE1 := Lib.hid (se.alloc (.cells #[.string f0, .string f1, .bool f2, .int .i64 f3, .int .i64 f4, .string f5, .int .i64 f6, .slice F7 f7.length p7] 45))
                        have B1 := Lib.hid (b0.alloc (.cells #[.string f0, .string f1, .bool f2, .int .i64 f3, .int .i64 f4, .string f5, .int .i64 f6, .slice F7 f7.length p7] 45))
                        have C1 := Lib.hid (cb.alloc (.cells #[.string f0, .string f1, .bool f2, .int .i64 f3, .int .i64 f4, .string f5, .int .i64 f6, .slice F7 f7.length p7] 45))
                        have HFA := Lib.hid hfa
                        have HFR := Lib.hid hfr
                        clear hfa sf sm se b0 cb hb0 hfr
                        have HD := Lib.hid (fun (h : fdAt n2 q = false) => show false = prF z0 cs from by rw [HP3.out, allK_f hlt (by rw [HAT.out, allK_f hlq h]; rfl)])
                        cases hh3 : hasS (nmR FField.nmF n2 q) f0.toList with
                        | true =>
                          have HAS3 := Lib.hid hh3
                          have HG := Lib.hid (HD.out (by rw [hat, hh3]; simp))
                          clear hat
                          go_wp2_with (first | (at_lookup; refine wpList_look_seen_g _ rfl _ _ 62 rfl 9 4 Tryz.underlying9 Tryz.underlying4 (fun W => by kernel_rfl) Tryz.underlying62 (v1.heap.size) q (nmR FField.nmF n2 q) rfl SF1.out f0 hsm rfl ?_; rw [HAS3.out]))
                          go_ret
                          exact ⟨ret_bool HG.out, HB1.out⟩
                        | false =>
                          have HAS3 := Lib.hid hh3
                          rw [hh3] at hat
                          cases hgf : goodF f0 with
                          | false =>
                            have HGF := Lib.hid hgf
                            have HG := Lib.hid (HD.out (by rw [hat, hgf]; simp))
                            clear hat
                            go_wp2_with (first | (at_lookup; refine wpList_look_seen_g _ rfl _ _ 62 rfl 9 4 Tryz.underlying9 Tryz.underlying4 (fun W => by kernel_rfl) Tryz.underlying62 (v1.heap.size) q (nmR FField.nmF n2 q) rfl SF1.out f0 hsm rfl ?_; rw [HAS3.out]) | (go_at_call 20; refine (good_impl f0 _ hxo).mono ?_; rw [HGF.out]; rintro e w' ⟨rfl, rfl⟩))
                            go_ret
                            exact ⟨ret_bool HG.out, HB1.out⟩
                          | true =>
                            have HGF := Lib.hid hgf
                            rw [hgf] at hat
                            cases hiv : isV ⟨f3, f4, f5, f6, f7⟩ with
                            | false =>
                              have HIV := Lib.hid hiv
                              have HG := Lib.hid (HD.out (by rw [hat, hiv]; simp))
                              clear hat
                              go_wp2_with (first | (at_lookup; refine wpList_look_seen_g _ rfl _ _ 62 rfl 9 4 Tryz.underlying9 Tryz.underlying4 (fun W => by kernel_rfl) Tryz.underlying62 (v1.heap.size) q (nmR FField.nmF n2 q) rfl SF1.out f0 hsm rfl ?_; rw [HAS3.out]) | (go_at_call 20; refine (good_impl f0 _ hxo).mono ?_; rw [HGF.out]; rintro e w' ⟨rfl, rfl⟩) | (go_at_call 21; refine (isV_impl ⟨f3, f4, f5, f6, f7⟩ hvw [.int .i64 f3, .int .i64 f4, .string f5, .int .i64 f6, .slice F7 f7.length p7] _ w.heap.size (HV.out.up HB1.out (Nat.le_refl _)) HB1.out.size (by rw [FValue.c_eq]; exact RdVs.cons (by unfold RdC; rfl) (RdVs.cons (by unfold RdC; rfl) (RdVs.cons (by unfold RdC; rfl) (RdVs.cons (by unfold RdC; rfl) (RdVs.cons (Qd7.out.below HB1.out (Nat.le_refl _)) (RdVs.nil _ _))))))).mono ?_; rw [HIV.out]; rintro e w2 ⟨rfl, hb2⟩; have HB2 := Lib.hid (HB1.out.trans (hb2.mono HB1.out.size)); have E2 := Lib.hid ((Blk.new wC 45 #[.string f0, .string f1, .bool f2, .int .i64 f3, .int .i64 f4, .string f5, .int .i64 f6, .slice F7 f7.length p7]).below hb2 (Nat.le_refl _)); have E2l := E2.out.lt; have e20 := E2.out.cell 0; have e23 := E2.out.cell 3; have SF2 := Lib.hid (SF1.out.below hb2 (Nat.le_refl _)); have SM2 := Lib.hid (SM1.out.below hb2 (Nat.le_refl _)); have SE2 := Lib.hid (SE1.out.below hb2 (Nat.le_refl _)); have B2 := Lib.hid (B1.out.below hb2 (Nat.le_refl _)); have C2 := Lib.hid (C1.out.below hb2 (Nat.le_refl _))))
                              go_ret
                              exact ⟨ret_bool HG.out, HB2.out⟩
                            | true =>
                              have HIV := Lib.hid hiv
                              rw [hiv] at hat
                              cases hrg : inB f3 0 3 with
                              | false =>
                                have HRG := Lib.hid hrg
                                have HG := Lib.hid (HD.out (by rw [hat, show vkind ⟨f3, f4, f5, f6, f7⟩ = f3 from rfl, hrg]; simp))
                                clear hat
                                go_wp2_with (first | (at_lookup; refine wpList_look_seen_g _ rfl _ _ 62 rfl 9 4 Tryz.underlying9 Tryz.underlying4 (fun W => by kernel_rfl) Tryz.underlying62 (v1.heap.size) q (nmR FField.nmF n2 q) rfl SF1.out f0 hsm rfl ?_; rw [HAS3.out]) | (go_at_call 20; refine (good_impl f0 _ hxo).mono ?_; rw [HGF.out]; rintro e w' ⟨rfl, rfl⟩) | (go_at_call 21; refine (isV_impl ⟨f3, f4, f5, f6, f7⟩ hvw [.int .i64 f3, .int .i64 f4, .string f5, .int .i64 f6, .slice F7 f7.length p7] _ w.heap.size (HV.out.up HB1.out (Nat.le_refl _)) HB1.out.size (by rw [FValue.c_eq]; exact RdVs.cons (by unfold RdC; rfl) (RdVs.cons (by unfold RdC; rfl) (RdVs.cons (by unfold RdC; rfl) (RdVs.cons (by unfold RdC; rfl) (RdVs.cons (Qd7.out.below HB1.out (Nat.le_refl _)) (RdVs.nil _ _))))))).mono ?_; rw [HIV.out]; rintro e w2 ⟨rfl, hb2⟩; have HB2 := Lib.hid (HB1.out.trans (hb2.mono HB1.out.size)); have E2 := Lib.hid ((Blk.new wC 45 #[.string f0, .string f1, .bool f2, .int .i64 f3, .int .i64 f4, .string f5, .int .i64 f6, .slice F7 f7.length p7]).below hb2 (Nat.le_refl _)); have E2l := E2.out.lt; have e20 := E2.out.cell 0; have e23 := E2.out.cell 3; have SF2 := Lib.hid (SF1.out.below hb2 (Nat.le_refl _)); have SM2 := Lib.hid (SM1.out.below hb2 (Nat.le_refl _)); have SE2 := Lib.hid (SE1.out.below hb2 (Nat.le_refl _)); have B2 := Lib.hid (B1.out.below hb2 (Nat.le_refl _)); have C2 := Lib.hid (C1.out.below hb2 (Nat.le_refl _))) | (go_at_call 22; refine (inRange_any _ _ _ _).mono ?_; rw [HRG.out]; rintro e w' ⟨rfl, rfl⟩))
                                go_ret
                                exact ⟨ret_bool HG.out, HB2.out⟩
                              | true =>
                                have HRG := Lib.hid hrg
                                have HFA2 := Lib.hid (on_succ HFA.out (show fdAt n2 q = true from by rw [hat, show vkind ⟨f3, f4, f5, f6, f7⟩ = f3 from rfl, hrg]; rfl))
                                clear hat
                                go_wp2_with (first | (at_lookup; refine wpList_look_seen_g _ rfl _ _ 62 rfl 9 4 Tryz.underlying9 Tryz.underlying4 (fun W => by kernel_rfl) Tryz.underlying62 (v1.heap.size) q (nmR FField.nmF n2 q) rfl SF1.out f0 hsm rfl ?_; rw [HAS3.out]) | (go_at_call 20; refine (good_impl f0 _ hxo).mono ?_; rw [HGF.out]; rintro e w' ⟨rfl, rfl⟩) | (go_at_call 21; refine (isV_impl ⟨f3, f4, f5, f6, f7⟩ hvw [.int .i64 f3, .int .i64 f4, .string f5, .int .i64 f6, .slice F7 f7.length p7] _ w.heap.size (HV.out.up HB1.out (Nat.le_refl _)) HB1.out.size (by rw [FValue.c_eq]; exact RdVs.cons (by unfold RdC; rfl) (RdVs.cons (by unfold RdC; rfl) (RdVs.cons (by unfold RdC; rfl) (RdVs.cons (by unfold RdC; rfl) (RdVs.cons (Qd7.out.below HB1.out (Nat.le_refl _)) (RdVs.nil _ _))))))).mono ?_; rw [HIV.out]; rintro e w2 ⟨rfl, hb2⟩; have HB2 := Lib.hid (HB1.out.trans (hb2.mono HB1.out.size)); have E2 := Lib.hid ((Blk.new wC 45 #[.string f0, .string f1, .bool f2, .int .i64 f3, .int .i64 f4, .string f5, .int .i64 f6, .slice F7 f7.length p7]).below hb2 (Nat.le_refl _)); have E2l := E2.out.lt; have e20 := E2.out.cell 0; have e23 := E2.out.cell 3; have SF2 := Lib.hid (SF1.out.below hb2 (Nat.le_refl _)); have SM2 := Lib.hid (SM1.out.below hb2 (Nat.le_refl _)); have SE2 := Lib.hid (SE1.out.below hb2 (Nat.le_refl _)); have B2 := Lib.hid (B1.out.below hb2 (Nat.le_refl _)); have C2 := Lib.hid (C1.out.below hb2 (Nat.le_refl _))) | (go_at_call 22; refine (inRange_any _ _ _ _).mono ?_; rw [HRG.out]; rintro e w' ⟨rfl, rfl⟩) | (at_mapUpdate; go_must (refine wpList_put_seen _ rfl _ _ _ 62 rfl 9 4 Tryz.underlying9 Tryz.underlying4 Tryz.underlying62 (v1.heap.size) q (nmR FField.nmF n2 q) rfl SF2.out hkm f0 hsm rfl rfl ?_); intro v2 hs1 hg1))
                                rw [← HFR.out] at hs1
                                go_roundw
                                case rel => exact ⟨q + 1, by omega, by go_num, HFA2.out, hs1, SM2.out.kept hg1 (by simp; omega), SE2.out.kept hg1 (by simp; omega), blk_grownK B2.out hg1 (by simp; omega), blk_grownK C2.out hg1 (by simp; omega), grown_below1 HB2.out hg1 (by omega) HB2.out.size⟩
                                case measure => simp [intOf]; omega
                      · obtain rfl : q = n2.length := by omega
                        have HAT2 := Lib.hid (show clAt z0 cs k = allK (mtAt z0 n3) n3.length from by rw [HAT.out, allK_t hfa]; simp)
                        have cb2 := cb.cell 2
                        have cb3 := cb.cell 3
                        have SM1 := Lib.hid sm
                        have SE1 := Lib.hid se
                        have B1 := Lib.hid b0
                        have HB1 := Lib.hid hb0
                        clear hfa sf sm se b0 cb hb0 HAT
                        go_wp2_with fail
                        go_loopw [130] (fun i wr => ∃ q : Nat, q ≤ n3.length ∧ i = .int .i64 q ∧ (∀ j, j < q → mtAt z0 n3 j = true) ∧ Seen Tryz.prog 9 4 wr (wA.heap.size + 1) (k + 1) (nmR FClass.nm cs (k + 1)) ∧ SeenI wr (w.heap.size + 1) z0.length (fo FFunc.nm z0) ∧ Blk wr w.heap.size 31 #[.slice A0 z0.length c0, .slice (some ⟨bc, offc, none⟩) cs.length c1] ∧ Below w.heap.size w wr) (fun i _ => n3.length - (intOf i).toNat)
                        case atStart => exact ⟨0, Nat.zero_le _, rfl, fun j hj => absurd hj (by omega), SM1.out, SE1.out, B1.out, HB1.out⟩
                        case round =>
                          clear SM1 SE1 B1 HB1 cb2 cb3
                          obtain ⟨q, hq9, rfl, hfa, sm, se, b0, hb0⟩ := hrel
                          obtain ⟨wD, rfl⟩ : ∃ W : World, W = wr := ⟨_, rfl⟩
                          have hwd : w.heap.size ≤ wD.heap.size := hb0.size
                          have hs2 := sm.lt
                          have hs1_ := se.lt
                          by_cases hlq : q < n3.length
                          · obtain ⟨x, hx⟩ : ∃ x, n3[q]? = some x := ⟨_, List.getElem?_eq_getElem hlq⟩
                            have hfw := FMethod.wts_at n3 x (List.mem_of_getElem? hx)
                            obtain ⟨bm, offm, hbm, hblbm, hcc⟩ := RdC.at_ FMethod.len Qnn3.out hx
                            obtain ⟨m0, m1, m2, m3, m4⟩ := x
                            have hat := mtAt_at (l := z0) hx
                            clear hx
                            rw [FMethod.wt_eq] at hfw
                            subst hbm
                            rw [FMethod.c_eq] at hcc
                            obtain ⟨u0, e0, q0⟩ := hcc 0 _ rfl
                            obtain rfl := q0.val
                            have Hk_0 := Lib.hid (fun W (hb : Below w.heap.size w W) => (hb.cell (p := ⟨bm, offm + q * 5, none⟩) hblbm).trans (show w.cell? ⟨bm, offm + q * 5, none⟩ = some (.string m0) from by simpa using e0))
                            have k_0 := Hk_0.out _ hb0
                            obtain ⟨u1, e1, q1⟩ := hcc 1 _ rfl
                            obtain rfl := q1.val
                            have Hk_1 := Lib.hid (fun W (hb : Below w.heap.size w W) => (hb.cell (p := ⟨bm, offm + q * 5 + 1, none⟩) hblbm).trans (show w.cell? ⟨bm, offm + q * 5 + 1, none⟩ = some (.string m1) from by simpa using e1))
                            have k_1 := Hk_1.out _ hb0
                            obtain ⟨u2, e2, q2⟩ := hcc 2 _ rfl
                            obtain rfl := q2.val
                            have Hk_2 := Lib.hid (fun W (hb : Below w.heap.size w W) => (hb.cell (p := ⟨bm, offm + q * 5 + 2, none⟩) hblbm).trans (show w.cell? ⟨bm, offm + q * 5 + 2, none⟩ = some (.string m2) from by simpa using e2))
                            have k_2 := Hk_2.out _ hb0
                            obtain ⟨u3, e3, q3⟩ := hcc 3 _ rfl
                            obtain rfl := q3.val
                            have Hk_3 := Lib.hid (fun W (hb : Below w.heap.size w W) => (hb.cell (p := ⟨bm, offm + q * 5 + 3, none⟩) hblbm).trans (show w.cell? ⟨bm, offm + q * 5 + 3, none⟩ = some (.bool m3) from by simpa using e3))
                            have k_3 := Hk_3.out _ hb0
                            obtain ⟨u4, e4, q4⟩ := hcc 4 _ rfl
                            obtain rfl := q4.val
                            have Hk_4 := Lib.hid (fun W (hb : Below w.heap.size w W) => (hb.cell (p := ⟨bm, offm + q * 5 + 4, none⟩) hblbm).trans (show w.cell? ⟨bm, offm + q * 5 + 4, none⟩ = some (.bool m4) from by simpa using e4))
                            have k_4 := Hk_4.out _ hb0
                            clear hcc e0 q0 e1 q1 e2 q2 e3 q3 e4 q4
                            obtain ⟨sk, hsk⟩ : ∃ s, m2 ++ ⟨#[58, 58]⟩ ++ m0 = s := ⟨_, rfl⟩
                            have hsz : sk.size = m2.size + 2 + m0.size := by rw [← hsk, ByteArray.size_append, ByteArray.size_append]; rfl
                            rw [hsk] at hat
                            have hsm : sk.size ≤ maxLen := by unfold maxLen; omega
                            have hz1 : m2.size ≤ 1000000000 := by omega
                            have hz2 : m0.size ≤ 1000000000 := by omega
                            have HB1 := Lib.hid (hb0.alloc hb0.size (.cells #[.string m0, .string m1, .string m2, .bool m3, .bool m4] 57))
                            have SM1 := Lib.hid (sm.alloc (.cells #[.string m0, .string m1, .string m2, .bool m3, .bool m4] 57))
                            have SE1 := Lib.hid (se.alloc (.cells #[.string m0, .string m1, .string m2, .bool m3, .bool m4] 57))
                            have B1 := Lib.hid (b0.alloc (.cells #[.string m0, .string m1, .string m2, .bool m3, .bool m4] 57))
                            have B10 := B1.out.cell 0
                            have B1l := B1.out.lt
                            have HFA := Lib.hid hfa
                            clear hfa sm se b0 hb0
                            have HD := Lib.hid (fun (h : mtAt z0 n3 q = false) => show false = prF z0 cs from by rw [HP3.out, allK_f hlt (by rw [HAT2.out, allK_f hlq h])])
                            have h58 : (⟨#[58, 58]⟩ : ByteArray).size = 2 := rfl
                            have g1 : ∀ W : World, (Op.stringOp .add m2 (⟨#[58, 58]⟩ : ByteArray)).run Tryz.prog W = .ok (.string (m2 ++ ⟨#[58, 58]⟩)) W := fun W => run_string_add_sum W _ _ (by omega)
                            have g2 : ∀ W : World, (Op.stringOp .add (m2 ++ (⟨#[58, 58]⟩ : ByteArray)) m0).run Tryz.prog W = .ok (.string sk) W := fun W => by rw [← hsk]; exact run_string_add_sum W _ _ (by rw [ByteArray.size_append]; omega)
                            clear hsk
                            cases hfo : fo FFunc.nm z0 sk.toList with
                            | none =>
                              have HFO := Lib.hid (show (fo FFunc.nm z0 sk.toList).isSome = false from by rw [hfo]; rfl)
                              have HG := Lib.hid (HD.out (by rw [hat, mtB_none hfo]))
                              clear hat hfo
                              go_wp2_with (first | (at_lookup; refine wpList_look_int rfl _ _ 60 rfl Tryz.underlying60 (w.heap.size + 1) z0.length (fo FFunc.nm z0) rfl SE1.out sk hsm rfl ?_; intro v hv; rw [HFO.out]))
                              go_ret
                              exact ⟨ret_bool HG.out, HB1.out⟩
                            | some i =>
                              have HFO := Lib.hid (show (fo FFunc.nm z0 sk.toList).isSome = true from by rw [hfo]; rfl)
                              have HFI := Lib.hid hfo
                              obtain ⟨f, hfi, hil⟩ := fo_some hfo
                              rw [mtB_some hfo hfi] at hat
                              have hfw3 := FFunc.wts_at z0 f (List.mem_of_getElem? hfi)
                              have hfk4 := OK0.out f (List.mem_of_getElem? hfi)
                              obtain ⟨bf, offf, rfl, hblbf, hcc⟩ := RdC.at_ FFunc.len HC0.out hfi
                              clear hfi hfo
                              obtain ⟨y0, y1, y2, y3, y4, y5⟩ := f
                              have hfw4 : FFunc.wt ⟨y0, y1, y2, y3, y4, y5⟩ ≤ 1000000000 := by omega
                              rw [FFunc.c_eq] at hcc
                              obtain ⟨u0, e0, q0⟩ := hcc 0 _ rfl
                              obtain rfl := q0.val
                              have Hf_0 := Lib.hid (fun W (hb : Below w.heap.size w W) => (hb.cell (p := ⟨bf, offf + i * 6, none⟩) hblbf).trans (show w.cell? ⟨bf, offf + i * 6, none⟩ = some (.string y0) from by simpa using e0))
                              have f_0 := Hf_0.out _ HB1.out
                              obtain ⟨u1, e1, q1⟩ := hcc 1 _ rfl
                              obtain ⟨Y1, x1, rfl⟩ := q1.form
                              have Hf_1 := Lib.hid (fun W (hb : Below w.heap.size w W) => (hb.cell (p := ⟨bf, offf + i * 6 + 1, none⟩) hblbf).trans (show w.cell? ⟨bf, offf + i * 6 + 1, none⟩ = some (.slice Y1 y1.length x1) from by simpa using e1))
                              have f_1 := Hf_1.out _ HB1.out
                              obtain ⟨u2, e2, q2⟩ := hcc 2 _ rfl
                              obtain ⟨Y2, x2, rfl⟩ := q2.form
                              have Hf_2 := Lib.hid (fun W (hb : Below w.heap.size w W) => (hb.cell (p := ⟨bf, offf + i * 6 + 2, none⟩) hblbf).trans (show w.cell? ⟨bf, offf + i * 6 + 2, none⟩ = some (.slice Y2 y2.length x2) from by simpa using e2))
                              have f_2 := Hf_2.out _ HB1.out
                              obtain ⟨u3, e3, q3⟩ := hcc 3 _ rfl
                              obtain ⟨Y3, x3, rfl⟩ := q3.form
                              have Hf_3 := Lib.hid (fun W (hb : Below w.heap.size w W) => (hb.cell (p := ⟨bf, offf + i * 6 + 3, none⟩) hblbf).trans (show w.cell? ⟨bf, offf + i * 6 + 3, none⟩ = some (.slice Y3 y3.length x3) from by simpa using e3))
                              have f_3 := Hf_3.out _ HB1.out
                              obtain ⟨u4, e4, q4⟩ := hcc 4 _ rfl
                              obtain rfl := q4.val
                              have Hf_4 := Lib.hid (fun W (hb : Below w.heap.size w W) => (hb.cell (p := ⟨bf, offf + i * 6 + 4, none⟩) hblbf).trans (show w.cell? ⟨bf, offf + i * 6 + 4, none⟩ = some (.bool y4) from by simpa using e4))
                              have f_4 := Hf_4.out _ HB1.out
                              obtain ⟨u5, e5, q5⟩ := hcc 5 _ rfl
                              obtain ⟨Y5, x5, rfl⟩ := q5.form
                              have Hf_5 := Lib.hid (fun W (hb : Below w.heap.size w W) => (hb.cell (p := ⟨bf, offf + i * 6 + 5, none⟩) hblbf).trans (show w.cell? ⟨bf, offf + i * 6 + 5, none⟩ = some (.slice Y5 y5.length x5) from by simpa using e5))
                              have f_5 := Hf_5.out _ HB1.out
                              have Qf_1 := Lib.hid q1
                              have Qf_2 := Lib.hid q2
                              have Qf_3 := Lib.hid q3
                              have Qf_5 := Lib.hid q5
                              clear hcc e0 q0 e1 q1 e2 q2 e3 q3 e4 q4 e5 q5
                              rw [show FFunc.nm ⟨y0, y1, y2, y3, y4, y5⟩ = y0 from rfl, show FFunc.usn ⟨y0, y1, y2, y3, y4, y5⟩ = y2.length from rfl] at hat
                              rw [FFunc.wt_eq] at hfw3
                              have hl2 : y2.length ≤ 9223372036854775807 := by omega
                              cases hil2 : isFl y0 with
                              | true =>
                                have HIL := Lib.hid hil2
                                have HG := Lib.hid (HD.out (by rw [hat, hil2]; rfl))
                                clear hat
                                go_wp2_with (first | (at_lookup; refine wpList_look_int rfl _ _ 60 rfl Tryz.underlying60 (w.heap.size + 1) z0.length (fo FFunc.nm z0) rfl SE1.out sk hsm rfl ?_; intro v hv; have hv2 := hv i HFI.out; subst hv2; rw [HFO.out]) | (go_at_call 23; refine (IsFile_impl y0 y1 y2 y3 y4 y5 [.string y0, .slice Y1 y1.length x1, .slice Y2 y2.length x2, .slice Y3 y3.length x3, .bool y4, .slice Y5 y5.length x5] _ hfw4 hfk4 (B := w.heap.size) HB1.out.size (by rw [FFunc.c_eq]; exact RdVs.cons (by unfold RdC; rfl) (RdVs.cons (Qf_1.out.below HB1.out (Nat.le_refl _)) (RdVs.cons (Qf_2.out.below HB1.out (Nat.le_refl _)) (RdVs.cons (Qf_3.out.below HB1.out (Nat.le_refl _)) (RdVs.cons (by unfold RdC; rfl) (RdVs.cons (Qf_5.out.below HB1.out (Nat.le_refl _)) (RdVs.nil _ _)))))))).mono ?_; rw [HIL.out]; rintro e w2 ⟨rfl, hb2⟩; have HB2 := Lib.hid (HB1.out.trans (hb2.mono HB1.out.size)); have SM2 := Lib.hid (SM1.out.below hb2 (Nat.le_refl _)); have SE2 := Lib.hid (SE1.out.below hb2 (Nat.le_refl _)); have B2 := Lib.hid (B1.out.below hb2 (Nat.le_refl _)); have B20 := B2.out.cell 0; have B2l := B2.out.lt; have f22 := Hf_2.out _ HB2.out))
                                go_ret
                                exact ⟨ret_bool HG.out, HB2.out⟩
                              | false =>
                                have HIL := Lib.hid hil2
                                by_cases hz : y2.length = 0
                                case neg =>
                                  have HG := Lib.hid (HD.out (by rw [hat, hil2, beq_false_of_ne hz]; rfl))
                                  have hz2 : (0 : Int) < (y2.length : Int) := by omega
                                  clear hat
                                  go_wp2_with (first | (at_lookup; refine wpList_look_int rfl _ _ 60 rfl Tryz.underlying60 (w.heap.size + 1) z0.length (fo FFunc.nm z0) rfl SE1.out sk hsm rfl ?_; intro v hv; have hv2 := hv i HFI.out; subst hv2; rw [HFO.out]) | (go_at_call 23; refine (IsFile_impl y0 y1 y2 y3 y4 y5 [.string y0, .slice Y1 y1.length x1, .slice Y2 y2.length x2, .slice Y3 y3.length x3, .bool y4, .slice Y5 y5.length x5] _ hfw4 hfk4 (B := w.heap.size) HB1.out.size (by rw [FFunc.c_eq]; exact RdVs.cons (by unfold RdC; rfl) (RdVs.cons (Qf_1.out.below HB1.out (Nat.le_refl _)) (RdVs.cons (Qf_2.out.below HB1.out (Nat.le_refl _)) (RdVs.cons (Qf_3.out.below HB1.out (Nat.le_refl _)) (RdVs.cons (by unfold RdC; rfl) (RdVs.cons (Qf_5.out.below HB1.out (Nat.le_refl _)) (RdVs.nil _ _)))))))).mono ?_; rw [HIL.out]; rintro e w2 ⟨rfl, hb2⟩; have HB2 := Lib.hid (HB1.out.trans (hb2.mono HB1.out.size)); have SM2 := Lib.hid (SM1.out.below hb2 (Nat.le_refl _)); have SE2 := Lib.hid (SE1.out.below hb2 (Nat.le_refl _)); have B2 := Lib.hid (B1.out.below hb2 (Nat.le_refl _)); have B20 := B2.out.cell 0; have B2l := B2.out.lt; have f22 := Hf_2.out _ HB2.out))
                                  go_ret
                                  exact ⟨ret_bool HG.out, HB2.out⟩
                                have HFA2 := Lib.hid (on_succ HFA.out (show mtAt z0 n3 q = true from by rw [hat, hil2, hz]; rfl))
                                have hz2 : ¬ (0 : Int) < (y2.length : Int) := by omega
                                clear hat hz
                                go_wp2_with (first | (at_lookup; refine wpList_look_int rfl _ _ 60 rfl Tryz.underlying60 (w.heap.size + 1) z0.length (fo FFunc.nm z0) rfl SE1.out sk hsm rfl ?_; intro v hv; have hv2 := hv i HFI.out; subst hv2; rw [HFO.out]) | (go_at_call 23; refine (IsFile_impl y0 y1 y2 y3 y4 y5 [.string y0, .slice Y1 y1.length x1, .slice Y2 y2.length x2, .slice Y3 y3.length x3, .bool y4, .slice Y5 y5.length x5] _ hfw4 hfk4 (B := w.heap.size) HB1.out.size (by rw [FFunc.c_eq]; exact RdVs.cons (by unfold RdC; rfl) (RdVs.cons (Qf_1.out.below HB1.out (Nat.le_refl _)) (RdVs.cons (Qf_2.out.below HB1.out (Nat.le_refl _)) (RdVs.cons (Qf_3.out.below HB1.out (Nat.le_refl _)) (RdVs.cons (by unfold RdC; rfl) (RdVs.cons (Qf_5.out.below HB1.out (Nat.le_refl _)) (RdVs.nil _ _)))))))).mono ?_; rw [HIL.out]; rintro e w2 ⟨rfl, hb2⟩; have HB2 := Lib.hid (HB1.out.trans (hb2.mono HB1.out.size)); have SM2 := Lib.hid (SM1.out.below hb2 (Nat.le_refl _)); have SE2 := Lib.hid (SE1.out.below hb2 (Nat.le_refl _)); have B2 := Lib.hid (B1.out.below hb2 (Nat.le_refl _)); have B20 := B2.out.cell 0; have B2l := B2.out.lt; have f22 := Hf_2.out _ HB2.out))
                                go_roundw
                                case rel => exact ⟨q + 1, by omega, by go_num, HFA2.out, SM2.out, SE2.out, B2.out, HB2.out⟩
                                case measure => simp [intOf]; omega
                          · obtain rfl : q = n3.length := by omega
                            have HAL2 := Lib.hid (on_succ HAL.out (show clAt z0 cs k = true from by rw [HAT2.out, allK_t hfa]))
                            have SM1 := Lib.hid sm
                            have SE1 := Lib.hid se
                            have B1 := Lib.hid b0
                            have HB1 := Lib.hid hb0
                            clear hfa sm se b0 hb0
                            go_wp2_with fail
                            go_roundw
                            case rel => exact ⟨k + 1, by omega, by go_num, HAL2.out, SM1.out, SE1.out, B1.out, HB1.out⟩
                            case measure => simp [intOf]; omega
                · obtain rfl : k = cs.length := by omega
                  have HG := Lib.hid (show true = prF z0 cs from by rw [HP3.out, allK_t hall])
                  have HB1 := Lib.hid hb0
                  clear hall sm se b0 hb0
                  go_wp2_with fail
                  go_ret
                  exact ⟨ret_bool HG.out, HB1.out⟩
end Go.Proofs.YtdmbhmhfjappcaaGreatDoor
