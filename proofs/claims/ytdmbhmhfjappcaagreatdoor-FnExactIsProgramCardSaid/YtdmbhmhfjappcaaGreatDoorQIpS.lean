/-
  Parts of the proof: IpS. Conditions: none.
-/
import Derived.Test.YtdmbhmhfjappcaaGreatDoorQIpP
import Derived.Test.YtdmbhmhfjappcaaGreatDoorQIfS
import Derived.Test.YtdmbhmhfjappcaaGreatDoorQIvU
import Derived.Laws.Concat
import Derived.Deep.RegionHeld3
import Derived.Deep.QuietTactic
import Derived.BigQuiet
namespace Go.Proofs.YtdmbhmhfjappcaaGreatDoor
open Go.ChangeShapes Go.WideShapes Go.ChangeAt Go.RowKit Go.Deep Go.Joins
set_option linter.unusedVariables false
set_option linter.unusedSimpArgs false
set_option maxRecDepth 100000
theorem c0_fS {n a : ByteArray} {fs : List FField} {ms : List FMethod} {r : List FClass} (h : (n.toList == errL) = false) : c0B (⟨n, a, fs, ms⟩ :: r) = false := by
  cases fs with
  | nil => rfl
  | cons f l => rw [c0B, h]; rfl
theorem clAt_atS {l : List FFunc} {cs : List FClass} {k : Nat} {n a : ByteArray} {fs : List FField} {ms : List FMethod} (h : cs[k]? = some ⟨n, a, fs, ms⟩) : clAt l cs k = (!hasS (nmR FClass.nm cs k) n.toList && allK (fdAt fs) fs.length && allK (mtAt l ms) ms.length) := by unfold clAt; rw [h]
theorem fdAt_atS {fs : List FField} {k : Nat} {n a : ByteArray} {b : Bool} {v : FValue} (h : fs[k]? = some ⟨n, a, b, v⟩) : fdAt fs k = (!hasS (nmR FField.nmF fs k) n.toList && goodF n && isV v && inB (vkind v) 0 3) := by unfold fdAt; rw [h]
theorem mtAt_atS {l : List FFunc} {ms : List FMethod} {k : Nat} {n a f : ByteArray} {b c : Bool} (h : ms[k]? = some ⟨n, a, f, b, c⟩) : mtAt l ms k = mtB l (f ++ ⟨#[58, 58]⟩ ++ n) := by unfold mtAt; rw [h]
theorem mtB_noneS {l : List FFunc} {s : ByteArray} (h : fo FFunc.nm l s.toList = none) : mtB l s = false := by unfold mtB; rw [h]
theorem mtB_someS {l : List FFunc} {s : ByteArray} {i : Nat} {f : FFunc} (h : fo FFunc.nm l s.toList = some i) (hf : l[i]? = some f) : mtB l s = (!isFl (FFunc.nm f) && f.usn == 0) := by unfold mtB; rw [h]; simp only [hf]
theorem isV_kind {k n : Int} {s : ByteArray} {x : Int} {l : List FEntry} (h : isV ⟨k, n, s, x, l⟩ = true) : 0 ≤ k := by
  unfold isV at h
  rw [Bool.and_eq_true, vF] at h
  have h2 := h.2
  by_cases h4 : k = 4
  · omega
  · rw [if_neg (by simpa using h4)] at h2
    unfold vH at h2
    rw [Bool.and_eq_true] at h2
    have h3 := h2.2
    by_cases h0 : 0 ≤ k
    · exact h0
    · exfalso
      have e : ∀ c : Int, 0 ≤ c → (k == c) = false := fun c hc => beq_false_of_ne (by omega)
      simp [e] at h3
theorem fnAt_atS {l : List FFunc} {k : Nat} {f : FFunc} (h : l[k]? = some f) : fnAt l k = (!hasS (nmR FFunc.nm l k) (FFunc.nm f).toList && ifuV f) := by unfold fnAt; rw [h]
set_option maxHeartbeats 4000000 in
theorem IsProgram_spec (z0 : List FFunc) (z1 : List FClass) (us : List Value) (w : World) (hw : FProgram.wt ⟨z0, z1⟩ ≤ 1000000000) (ok : FProgram.ok ⟨z0, z1⟩) {B : Nat} (hB0 : B ≤ w.heap.size) (hr : RdVs w B (FProgram.c ⟨z0, z1⟩) us) :
    Calls Tryz.prog 5 #[.agg us.toArray] w fun e w' => e = .returned (.bool (prF z0 z1)) ∧ Below w.heap.size w w' := by
  rw [FProgram.c_eq] at hr
  obtain ⟨A0, c0, us0, rfl, r0, hr_0⟩ := hr.uns
  obtain ⟨A1, c1, us1, rfl, r1, hr_1⟩ := hr_0.uns
  obtain rfl := hr_1.un0
  rw [FProgram.wt_eq] at hw
  rw [FProgram.ok_eq] at ok
  have HC0 := Lib.hid (r0.up hB0)
  have HC1 := Lib.hid (r1.up hB0)
  have OK0 := Lib.hid (FFunc.oks_mem z0 ok.1)
  have OK1 := Lib.hid (FClass.oks_mem z1 ok.2)
  clear hr hr_0 hr_1 r0 r1 hB0 ok
  have hn0 : z0.length ≤ 9223372036854775807 := by omega
  have hn1 : z1.length ≤ 9223372036854775807 := by omega
  have hf9 : z0.length ≤ 1000000000 := by omega
  have hc9 : z1.length ≤ 1000000000 := by omega
  have HB1 := Lib.hid ((Below.refl _ w).alloc (Nat.le_refl _) (.cells #[.slice A0 z0.length c0, .slice A1 z1.length c1] 31))
  have hp : prF z0 z1 = (decide (z0.length ≤ 5000) && allK (fnAt z0) z0.length && c0B z1 && allK (clAt z0 z1) z1.length) := rfl
  by_cases hf5 : z0.length ≤ 5000
  case neg =>
    have HG := Lib.hid (show false = prF z0 z1 by rw [hp, decide_eq_false hf5]; simp)
    have h5 : (5000 : Int) < (z0.length : Int) := by omega
    clear hp
    go_enter Tryz.func5, Tryz.ntmps5
    go_wp2_with fail
    go_ret
    exact ⟨ret_bool HG.out, HB1.out⟩
  have h5 : ¬ (5000 : Int) < (z0.length : Int) := by omega
  rw [decide_eq_true hf5, Bool.true_and] at hp
  cases z1 with
  | nil =>
    have HG := Lib.hid (show false = prF z0 [] by rw [hp, show c0B [] = false from rfl]; simp)
    clear hp
    go_enter Tryz.func5, Tryz.ntmps5
    go_wp2_with fail
    go_ret
    exact ⟨ret_bool HG.out, HB1.out⟩
  | cons cl0 cr =>
    obtain ⟨cs, hcs⟩ : ∃ cs, cl0 :: cr = cs := ⟨_, rfl⟩
    rw [hcs] at hw HC1 OK1 hn1 hc9 HB1 hp ⊢
    have hne : ¬ (cs.length : Int) = 0 := by rw [← hcs]; simp only [List.length_cons]; omega
    have hne2 : ((cs.length : Int) == 0) = false := beq_false_of_ne hne
    have hcl : (0 : Int) < (cs.length : Int) := by omega
    have hcl2 : 0 < cs.length := by omega
    have hx : cs[0]? = some cl0 := by rw [← hcs]; rfl
    obtain ⟨bc, offc, rfl, hblbc, hcc⟩ := RdC.at_ FClass.len HC1.out hx
    have hcw := FClass.wts_at cs cl0 (by rw [← hcs]; simp)
    obtain ⟨y0, y1, y2, y3⟩ := cl0
    have hc0 : c0B cs = c0B (⟨y0, y1, y2, y3⟩ :: cr) := by rw [hcs]
    clear hx hcs
    rw [FClass.wt_eq] at hcw
    rw [FClass.c_eq] at hcc
    obtain ⟨u0, e0, q0⟩ := hcc 0 _ rfl
    obtain rfl := q0.val
    have Hg0 := Lib.hid (fun W (hb : Below w.heap.size w W) => (hb.cell (p := ⟨bc, offc, none⟩) hblbc).trans (show w.cell? ⟨bc, offc, none⟩ = some (.string y0) from by simpa using e0))
    have g0 := Hg0.out _ (Below.refl _ w)
    obtain ⟨u1, e1, q1⟩ := hcc 1 _ rfl
    obtain rfl := q1.val
    have Hg1 := Lib.hid (fun W (hb : Below w.heap.size w W) => (hb.cell (p := ⟨bc, offc + 1, none⟩) hblbc).trans (show w.cell? ⟨bc, offc + 1, none⟩ = some (.string y1) from by simpa using e1))
    have g1 := Hg1.out _ (Below.refl _ w)
    obtain ⟨u2, e2, q2⟩ := hcc 2 _ rfl
    obtain ⟨G2, x2, rfl⟩ := q2.form
    have Hg2 := Lib.hid (fun W (hb : Below w.heap.size w W) => (hb.cell (p := ⟨bc, offc + 2, none⟩) hblbc).trans (show w.cell? ⟨bc, offc + 2, none⟩ = some (.slice G2 y2.length x2) from by simpa using e2))
    have g2 := Hg2.out _ (Below.refl _ w)
    obtain ⟨u3, e3, q3⟩ := hcc 3 _ rfl
    obtain ⟨G3, x3, rfl⟩ := q3.form
    have Hg3 := Lib.hid (fun W (hb : Below w.heap.size w W) => (hb.cell (p := ⟨bc, offc + 3, none⟩) hblbc).trans (show w.cell? ⟨bc, offc + 3, none⟩ = some (.slice G3 y3.length x3) from by simpa using e3))
    have g3 := Hg3.out _ (Below.refl _ w)
    have Qg2 := Lib.hid q2
    have Qg3 := Lib.hid q3
    clear hcc e0 q0 e1 q1 e2 q2 e3 q3
    cases hq : (y0.toList == errL) with
    | false =>
      have hq2 : (y0.toList == [69, 114, 114, 111, 114]) = false := hq
      have HG := Lib.hid (show false = prF z0 cs from by rw [hp, hc0, c0_fS hq]; simp)
      clear hp hc0
      go_enter Tryz.func5, Tryz.ntmps5
      go_wp2_with fail
      go_ret
      exact ⟨ret_bool HG.out, HB1.out⟩
    | true =>
      have hq2 : (y0.toList == [69, 114, 114, 111, 114]) = true := hq
      cases y2 with
      | nil =>
        have HG := Lib.hid (show false = prF z0 cs from by rw [hp, hc0, show c0B (⟨y0, y1, [], y3⟩ :: cr) = false from rfl]; simp)
        clear hp hc0
        go_enter Tryz.func5, Tryz.ntmps5
        go_wp2_with fail
        go_ret
        exact ⟨ret_bool HG.out, HB1.out⟩
      | cons fd fr =>
        have hfl : (0 : Int) < ((fd :: fr).length : Int) := by simp only [List.length_cons]; omega
        have hfl0 : ¬ ((fd :: fr).length : Int) = 0 := by omega
        obtain ⟨fs, hfs⟩ : ∃ fs, fd :: fr = fs := ⟨_, rfl⟩
        rw [hfs] at Qg2 hfl hfl0 hc0 g2
        have hx : fs[0]? = some fd := by rw [← hfs]; rfl
        obtain ⟨bd, offd, rfl, hblbd, hcc⟩ := RdC.at_ FField.len Qg2.out hx
        clear hx
        have hfl1 : 0 < fs.length := by omega
        have hfl2 : ((fs.length : Int) == 0) = false := beq_false_of_ne hfl0
        have hc1 : c0B (⟨y0, y1, fs, y3⟩ :: cr) = ((FField.nmF fd).toList == msgL) := by rw [← hfs, c0B, hq]; rfl
        rw [hc1] at hc0
        clear hfs hc1
        obtain ⟨f0, f1, f2, ⟨f3, f4, f5, f6, f7⟩⟩ := fd
        rw [show FField.nmF ⟨f0, f1, f2, ⟨f3, f4, f5, f6, f7⟩⟩ = f0 from rfl] at hc0
        rw [FField.c_eq] at hcc
        obtain ⟨u0, e0, q0⟩ := hcc 0 _ rfl
        obtain rfl := q0.val
        have Hd0 := Lib.hid (fun W (hb : Below w.heap.size w W) => (hb.cell (p := ⟨bd, offd, none⟩) hblbd).trans (show w.cell? ⟨bd, offd, none⟩ = some (.string f0) from by simpa using e0))
        have d0 := Hd0.out _ (Below.refl _ w)
        obtain ⟨u1, e1, q1⟩ := hcc 1 _ rfl
        obtain rfl := q1.val
        have Hd1 := Lib.hid (fun W (hb : Below w.heap.size w W) => (hb.cell (p := ⟨bd, offd + 1, none⟩) hblbd).trans (show w.cell? ⟨bd, offd + 1, none⟩ = some (.string f1) from by simpa using e1))
        have d1 := Hd1.out _ (Below.refl _ w)
        obtain ⟨u2, e2, q2⟩ := hcc 2 _ rfl
        obtain rfl := q2.val
        have Hd2 := Lib.hid (fun W (hb : Below w.heap.size w W) => (hb.cell (p := ⟨bd, offd + 2, none⟩) hblbd).trans (show w.cell? ⟨bd, offd + 2, none⟩ = some (.bool f2) from by simpa using e2))
        have d2 := Hd2.out _ (Below.refl _ w)
        obtain ⟨u3, e3, q3⟩ := hcc 3 _ rfl
        obtain rfl := q3.val
        have Hd3 := Lib.hid (fun W (hb : Below w.heap.size w W) => (hb.cell (p := ⟨bd, offd + 3, none⟩) hblbd).trans (show w.cell? ⟨bd, offd + 3, none⟩ = some (.int .i64 f3) from by simpa using e3))
        have d3 := Hd3.out _ (Below.refl _ w)
        obtain ⟨u4, e4, q4⟩ := hcc 4 _ rfl
        obtain rfl := q4.val
        have Hd4 := Lib.hid (fun W (hb : Below w.heap.size w W) => (hb.cell (p := ⟨bd, offd + 4, none⟩) hblbd).trans (show w.cell? ⟨bd, offd + 4, none⟩ = some (.int .i64 f4) from by simpa using e4))
        have d4 := Hd4.out _ (Below.refl _ w)
        obtain ⟨u5, e5, q5⟩ := hcc 5 _ rfl
        obtain rfl := q5.val
        have Hd5 := Lib.hid (fun W (hb : Below w.heap.size w W) => (hb.cell (p := ⟨bd, offd + 5, none⟩) hblbd).trans (show w.cell? ⟨bd, offd + 5, none⟩ = some (.string f5) from by simpa using e5))
        have d5 := Hd5.out _ (Below.refl _ w)
        obtain ⟨u6, e6, q6⟩ := hcc 6 _ rfl
        obtain rfl := q6.val
        have Hd6 := Lib.hid (fun W (hb : Below w.heap.size w W) => (hb.cell (p := ⟨bd, offd + 6, none⟩) hblbd).trans (show w.cell? ⟨bd, offd + 6, none⟩ = some (.int .i64 f6) from by simpa using e6))
        have d6 := Hd6.out _ (Below.refl _ w)
        obtain ⟨u7, e7, q7⟩ := hcc 7 _ rfl
        obtain ⟨F7, p7, rfl⟩ := q7.form
        have Hd7 := Lib.hid (fun W (hb : Below w.heap.size w W) => (hb.cell (p := ⟨bd, offd + 7, none⟩) hblbd).trans (show w.cell? ⟨bd, offd + 7, none⟩ = some (.slice F7 f7.length p7) from by simpa using e7))
        have d7 := Hd7.out _ (Below.refl _ w)
        have Qd7 := Lib.hid q7
        clear hcc e0 q0 e1 q1 e2 q2 e3 q3 e4 q4 e5 q5 e6 q6 e7 q7
        cases hqm : (f0.toList == msgL) with
        | false =>
          have hqm2 : (f0.toList == [109, 101, 115, 115, 97, 103, 101]) = false := hqm
          have HG := Lib.hid (show false = prF z0 cs from by rw [hp, hc0, hqm]; simp)
          clear hp hc0
          go_enter Tryz.func5, Tryz.ntmps5
          go_wp2_with fail
          go_ret
          exact ⟨ret_bool HG.out, HB1.out⟩
        | true =>
          have hqm2 : (f0.toList == [109, 101, 115, 115, 97, 103, 101]) = true := hqm
          have HP := Lib.hid (show prF z0 cs = (allK (fnAt z0) z0.length && allK (clAt z0 cs) cs.length) from by rw [hp, hc0, hqm, Bool.and_true])
          clear hc0 hp
          go_enter Tryz.func5, Tryz.ntmps5
          go_wp2_with fail
          go_loopw [3] (fun i wr => ∃ k : Nat, k ≤ z0.length ∧ i = .int .i64 k ∧ (∀ j, j < k → fnAt z0 j = true) ∧ Blk wr w.heap.size 31 #[.slice A0 z0.length c0, .slice (some ⟨bc, offc, none⟩) cs.length c1] ∧ Below w.heap.size w wr) (fun i _ => z0.length - (intOf i).toNat)
          case atStart => exact ⟨0, Nat.zero_le _, rfl, fun j hj => absurd hj (by omega), Blk.new w _ _, HB1.out⟩
          case round =>
            clear HB1
            obtain ⟨k, hk, rfl, hall, b0, hb0⟩ := hrel
            have hws : w.heap.size ≤ wr.heap.size := hb0.size
            have b0l := b0.lt
            have b00 := b0.cell 0
            have b01 := b0.cell 1
            by_cases hlt : k < z0.length
            · obtain ⟨x, hx⟩ : ∃ x, z0[k]? = some x := ⟨_, List.getElem?_eq_getElem hlt⟩
              have hat := fnAt_atS hx
              have hfi := fidx_at (nm := FFunc.nm) hx
              obtain ⟨bf, offf, rfl, hblbf, hcc⟩ := RdC.at_ FFunc.len HC0.out hx
              have hfw := FFunc.wts_at z0 x (List.mem_of_getElem? hx)
              have hfk := OK0.out x (List.mem_of_getElem? hx)
              clear hx
              obtain ⟨y0, y1, y2, y3, y4, y5⟩ := x
              rw [FFunc.c_eq] at hcc
              obtain ⟨u0, e0, q0⟩ := hcc 0 _ rfl
              obtain rfl := q0.val
              have He_0 := Lib.hid (fun W (hb : Below w.heap.size w W) => (hb.cell (p := ⟨bf, offf + k * 6, none⟩) hblbf).trans (show w.cell? ⟨bf, offf + k * 6, none⟩ = some (.string y0) from by simpa using e0))
              have e_0 := He_0.out _ hb0
              obtain ⟨u1, e1, q1⟩ := hcc 1 _ rfl
              obtain ⟨Y1, x1, rfl⟩ := q1.form
              have He_1 := Lib.hid (fun W (hb : Below w.heap.size w W) => (hb.cell (p := ⟨bf, offf + k * 6 + 1, none⟩) hblbf).trans (show w.cell? ⟨bf, offf + k * 6 + 1, none⟩ = some (.slice Y1 y1.length x1) from by simpa using e1))
              have e_1 := He_1.out _ hb0
              obtain ⟨u2, e2, q2⟩ := hcc 2 _ rfl
              obtain ⟨Y2, x2, rfl⟩ := q2.form
              have He_2 := Lib.hid (fun W (hb : Below w.heap.size w W) => (hb.cell (p := ⟨bf, offf + k * 6 + 2, none⟩) hblbf).trans (show w.cell? ⟨bf, offf + k * 6 + 2, none⟩ = some (.slice Y2 y2.length x2) from by simpa using e2))
              have e_2 := He_2.out _ hb0
              obtain ⟨u3, e3, q3⟩ := hcc 3 _ rfl
              obtain ⟨Y3, x3, rfl⟩ := q3.form
              have He_3 := Lib.hid (fun W (hb : Below w.heap.size w W) => (hb.cell (p := ⟨bf, offf + k * 6 + 3, none⟩) hblbf).trans (show w.cell? ⟨bf, offf + k * 6 + 3, none⟩ = some (.slice Y3 y3.length x3) from by simpa using e3))
              have e_3 := He_3.out _ hb0
              obtain ⟨u4, e4, q4⟩ := hcc 4 _ rfl
              obtain rfl := q4.val
              have He_4 := Lib.hid (fun W (hb : Below w.heap.size w W) => (hb.cell (p := ⟨bf, offf + k * 6 + 4, none⟩) hblbf).trans (show w.cell? ⟨bf, offf + k * 6 + 4, none⟩ = some (.bool y4) from by simpa using e4))
              have e_4 := He_4.out _ hb0
              obtain ⟨u5, e5, q5⟩ := hcc 5 _ rfl
              obtain ⟨Y5, x5, rfl⟩ := q5.form
              have He_5 := Lib.hid (fun W (hb : Below w.heap.size w W) => (hb.cell (p := ⟨bf, offf + k * 6 + 5, none⟩) hblbf).trans (show w.cell? ⟨bf, offf + k * 6 + 5, none⟩ = some (.slice Y5 y5.length x5) from by simpa using e5))
              have e_5 := He_5.out _ hb0
              have Qe_1 := Lib.hid q1
              have Qe_2 := Lib.hid q2
              have Qe_3 := Lib.hid q3
              have Qe_5 := Lib.hid q5
              clear hcc e0 q0 e1 q1 e2 q2 e3 q3 e4 q4 e5 q5
              have hfw2 : FFunc.wt ⟨y0, y1, y2, y3, y4, y5⟩ ≤ 1000000000 := by omega
              rw [show FFunc.nm ⟨y0, y1, y2, y3, y4, y5⟩ = y0 from rfl] at hat hfi
              have HAL := Lib.hid hall
              have HB1 := Lib.hid hb0.drew
              have B1 := Lib.hid b0.drew
              clear hall hb0 b0
              cases hh : hasS (nmR FFunc.nm z0 k) y0.toList with
              | true =>
                obtain ⟨v, hv⟩ : ∃ v : Int, fidx FFunc.nm z0 y0 = v := ⟨_, rfl⟩
                have HFX := Lib.hid hv
                have hvk : ¬ v = (k : Int) := fun e => by rw [hfi.1 (hv.trans e)] at hh; cases hh
                have hvk2 : (v == (k : Int)) = false := beq_false_of_ne hvk
                have hvk3 : (v != (k : Int)) = true := by simp [bne, hvk2]
                have hvk4 : decide (v = (k : Int)) = false := decide_eq_false hvk
                have HG := Lib.hid (show false = prF z0 cs from by rw [HP.out, allK_f hlt (by rw [hat, hh]; rfl)]; rfl)
                clear hat hfi hv
                go_wp2_with fail
                refine wp_region_held_drew (S := (fun w_ => w_.cell? ⟨w.heap.size, 0, none⟩ = some (.slice (some ⟨bf, offf, none⟩) z0.length c0) ∧ w_.cell? ⟨w.heap.size, 1, none⟩ = some (.slice (some ⟨bc, offc, none⟩) cs.length c1) ∧ w_.cell? ⟨bf, offf + k * 6, none⟩ = some (.string y0) ∧ w_.cell? ⟨bf, offf + k * 6 + 1, none⟩ = some (.slice Y1 y1.length x1) ∧ w_.cell? ⟨bf, offf + k * 6 + 2, none⟩ = some (.slice Y2 y2.length x2) ∧ w_.cell? ⟨bf, offf + k * 6 + 3, none⟩ = some (.slice Y3 y3.length x3) ∧ w_.cell? ⟨bf, offf + k * 6 + 4, none⟩ = some (.bool y4) ∧ w_.cell? ⟨bf, offf + k * 6 + 5, none⟩ = some (.slice Y5 y5.length x5))) (by kernel_rfl) ?_ (fun hHeld => ?_)
                · (try dsimp only)
                  (first | exact ⟨b00, b01, e_0, e_1, e_2, e_3, e_4, e_5⟩ | exact ⟨B2.out.cell 0, B2.out.cell 1, He_0.out _ HB2.out, He_1.out _ HB2.out, He_2.out _ HB2.out, He_3.out _ HB2.out, He_4.out _ HB2.out, He_5.out _ HB2.out⟩ | exact ⟨B3.out.cell 0, B3.out.cell 1, He_0.out _ HB3.out, He_1.out _ HB3.out, He_2.out _ HB3.out, He_3.out _ HB3.out, He_4.out _ HB3.out, He_5.out _ HB3.out⟩)
                refine regTake (i := 0) (v := ?_) rfl (by kernel_rfl) (by kernel_rfl) (by kernel_rfl) (fun _ _ _ h => h) (by rfl) ?_ (by assumption) ?_
                rotate_left
                · intro w_ hSw
                  (try dsimp only at hSw)
                  go_simp
                  (try with_reducible rfl)
                try simp only [Act.put, List.setIfInBounds_toArray, List.set_cons_zero, List.set_cons_succ]
                refine regTake (i := 1) (v := ?_) rfl (by kernel_rfl) (by kernel_rfl) (by kernel_rfl) (fun _ _ _ h => h) (by rfl) ?_ (by assumption) ?_
                rotate_left
                · intro w_ hSw
                  (try dsimp only at hSw)
                  go_simp
                  (try with_reducible rfl)
                try simp only [Act.put, List.setIfInBounds_toArray, List.set_cons_zero, List.set_cons_succ]
                refine regTake (i := 2) (v := ?_) rfl (by kernel_rfl) (by kernel_rfl) (by kernel_rfl) (fun _ _ _ h => h) (by rfl) ?_ (by assumption) ?_
                rotate_left
                · intro w_ hSw
                  (try dsimp only at hSw)
                  go_simp
                  (try with_reducible rfl)
                try simp only [Act.put, List.setIfInBounds_toArray, List.set_cons_zero, List.set_cons_succ]
                refine regTake (i := 3) (v := ?_) rfl (by kernel_rfl) (by kernel_rfl) (by kernel_rfl) (fun _ _ _ h => h) (by rfl) ?_ (by assumption) ?_
                rotate_left
                · intro w_ hSw
                  (try dsimp only at hSw)
                  go_simp
                  (try with_reducible rfl)
                try simp only [Act.put, List.setIfInBounds_toArray, List.set_cons_zero, List.set_cons_succ]
                refine regTake (i := 4) (v := ?_) rfl (by kernel_rfl) (by kernel_rfl) (by kernel_rfl) (fun _ _ _ h => h) (by rfl) ?_ (by assumption) ?_
                rotate_left
                · intro w_ hSw
                  (try dsimp only at hSw)
                  go_simp
                  (try with_reducible rfl)
                try simp only [Act.put, List.setIfInBounds_toArray, List.set_cons_zero, List.set_cons_succ]
                refine regTake (i := 5) (v := ?_) rfl (by kernel_rfl) (by kernel_rfl) (by kernel_rfl) (fun _ _ _ h => h) (by rfl) ?_ (by assumption) ?_
                rotate_left
                · intro w_ hSw
                  (try dsimp only at hSw)
                  go_simp
                  (try with_reducible rfl)
                try simp only [Act.put, List.setIfInBounds_toArray, List.set_cons_zero, List.set_cons_succ]
                refine regTake (i := 6) (v := ?_) rfl (by kernel_rfl) (by kernel_rfl) (by kernel_rfl) (fun _ _ _ h => h) (by rfl) ?_ (by assumption) ?_
                rotate_left
                · intro w_ hSw
                  (try dsimp only at hSw)
                  go_simp
                  (try with_reducible rfl)
                try simp only [Act.put, List.setIfInBounds_toArray, List.set_cons_zero, List.set_cons_succ]
                refine regTake (i := 8) (v := ?_) rfl (by kernel_rfl) (by kernel_rfl) (by kernel_rfl) (fun _ _ _ h => h) (by rfl) ?_ (by assumption) ?_
                rotate_left
                · intro w_ hSw
                  (try dsimp only at hSw)
                  go_simp
                  (try with_reducible rfl)
                try simp only [Act.put, List.setIfInBounds_toArray, List.set_cons_zero, List.set_cons_succ]
                refine regCall (i := 7) (by kernel_rfl) rfl (by rfl) (fun K hK => ?_)
                go_simp
                (go_at_call 11; refine (FindFunc_spec z0 cs y0 [.slice (some ⟨bf, offf, none⟩) z0.length c0, .slice (some ⟨bc, offc, none⟩) cs.length c1] _ hf9 (B := w.heap.size) HB1.out.size (by rw [FProgram.c_eq]; exact RdVs.cons (HC0.out.below HB1.out (Nat.le_refl _)) (RdVs.cons (HC1.out.below HB1.out (Nat.le_refl _)) (RdVs.nil _ _)))).mono ?_; rw [HFX.out]; rintro e w2 ⟨rfl, hb2⟩; have HB2 := Lib.hid (HB1.out.trans (hb2.mono HB1.out.size)); have B2 := Lib.hid (B1.out.below hb2 (Nat.le_refl _)); clear hb2)
                refine hK.out _ _ ?_ (fun hHeld => ?_)
                · (try dsimp only)
                  (first | exact ⟨b00, b01, e_0, e_1, e_2, e_3, e_4, e_5⟩ | exact ⟨B2.out.cell 0, B2.out.cell 1, He_0.out _ HB2.out, He_1.out _ HB2.out, He_2.out _ HB2.out, He_3.out _ HB2.out, He_4.out _ HB2.out, He_5.out _ HB2.out⟩ | exact ⟨B3.out.cell 0, B3.out.cell 1, He_0.out _ HB3.out, He_1.out _ HB3.out, He_2.out _ HB3.out, He_3.out _ HB3.out, He_4.out _ HB3.out, He_5.out _ HB3.out⟩)
                clear hK K
                try simp only [Act.put, List.setIfInBounds_toArray, List.set_cons_zero, List.set_cons_succ]
                refine regTake (i := 9) (v := ?_) rfl (by kernel_rfl) (by kernel_rfl) (by kernel_rfl) (fun _ _ _ h => h) (by rfl) ?_ (by assumption) ?_
                rotate_left
                · intro w_ hSw
                  (try dsimp only at hSw)
                  go_simp
                  (try with_reducible rfl)
                try simp only [Act.put, List.setIfInBounds_toArray, List.set_cons_zero, List.set_cons_succ]
                refine regTake (i := 10) (v := ?_) rfl (by kernel_rfl) (by kernel_rfl) (by kernel_rfl) (fun _ _ _ h => h) (by rfl) ?_ (by assumption) ?_
                rotate_left
                · intro w_ hSw
                  (try dsimp only at hSw)
                  go_simp
                  (try with_reducible rfl)
                try simp only [Act.put, List.setIfInBounds_toArray, List.set_cons_zero, List.set_cons_succ]
                refine regSkip (i := 11) rfl (by kernel_rfl) (by kernel_rfl) (by kernel_rfl) (fun _ _ _ h => h) (by rfl) (by assumption) ?_
                try simp only [Act.put, List.setIfInBounds_toArray, List.set_cons_zero, List.set_cons_succ]
                refine regSkip (i := 12) rfl (by kernel_rfl) (by kernel_rfl) (by kernel_rfl) (fun _ _ _ h => h) (by rfl) (by assumption) ?_
                try simp only [Act.put, List.setIfInBounds_toArray, List.set_cons_zero, List.set_cons_succ]
                refine regSkip (i := 13) rfl (by kernel_rfl) (by kernel_rfl) (by kernel_rfl) (fun _ _ _ h => h) (by rfl) (by assumption) ?_
                try simp only [Act.put, List.setIfInBounds_toArray, List.set_cons_zero, List.set_cons_succ]
                refine regSkip (i := 14) rfl (by kernel_rfl) (by kernel_rfl) (by kernel_rfl) (fun _ _ _ h => h) (by rfl) (by assumption) ?_
                try simp only [Act.put, List.setIfInBounds_toArray, List.set_cons_zero, List.set_cons_succ]
                refine regSkip (i := 15) rfl (by kernel_rfl) (by kernel_rfl) (by kernel_rfl) (fun _ _ _ h => h) (by rfl) (by assumption) ?_
                try simp only [Act.put, List.setIfInBounds_toArray, List.set_cons_zero, List.set_cons_succ]
                refine regSkip (i := 16) rfl (by kernel_rfl) (by kernel_rfl) (by kernel_rfl) (fun _ _ _ h => h) (by rfl) (by assumption) ?_
                try simp only [Act.put, List.setIfInBounds_toArray, List.set_cons_zero, List.set_cons_succ]
                refine regSkip (i := 17) rfl (by kernel_rfl) (by kernel_rfl) (by kernel_rfl) (fun _ _ _ h => h) (by rfl) (by assumption) ?_
                try simp only [Act.put, List.setIfInBounds_toArray, List.set_cons_zero, List.set_cons_succ]
                refine regTake (i := 18) (v := ?_) rfl (by kernel_rfl) (by kernel_rfl) (by kernel_rfl) (fun _ _ _ h => h) (by rfl) ?_ (by assumption) ?_
                rotate_left
                · intro w_ hSw
                  (try dsimp only at hSw)
                  go_simp
                  (try with_reducible rfl)
                try simp only [Act.put, List.setIfInBounds_toArray, List.set_cons_zero, List.set_cons_succ]
                refine wpAnyH_done (by kernel_rfl) ?_ _
                go_wp2_with fail
                go_ret
                exact ⟨ret_bool HG.out, HB2.out⟩
              | false =>
                obtain ⟨v, hv⟩ : ∃ v : Int, fidx FFunc.nm z0 y0 = v := ⟨_, rfl⟩
                have HFX := Lib.hid hv
                have hvk2 : (v == (k : Int)) = true := by rw [← hv, hfi.2 hh]; simp
                have hvk3 : (v != (k : Int)) = false := by simp only [bne, hvk2]; rfl
                have hvk4 : decide (v = (k : Int)) = true := decide_eq_true (by simpa using hvk2)
                clear hv
                rw [hh, show ifuV ⟨y0, y1, y2, y3, y4, y5⟩ = ifuF y0 y1 y2 y3 y4 y5 from rfl] at hat
                clear hfi
                cases hif : ifuF y0 y1 y2 y3 y4 y5 with
                | false =>
                  have HIF := Lib.hid hif
                  have HG := Lib.hid (show false = prF z0 cs from by rw [HP.out, allK_f hlt (by rw [hat, hif]; rfl)]; rfl)
                  clear hat
                  go_wp2_with fail
                  refine wp_region_held_drew (S := (fun w_ => w_.cell? ⟨w.heap.size, 0, none⟩ = some (.slice (some ⟨bf, offf, none⟩) z0.length c0) ∧ w_.cell? ⟨w.heap.size, 1, none⟩ = some (.slice (some ⟨bc, offc, none⟩) cs.length c1) ∧ w_.cell? ⟨bf, offf + k * 6, none⟩ = some (.string y0) ∧ w_.cell? ⟨bf, offf + k * 6 + 1, none⟩ = some (.slice Y1 y1.length x1) ∧ w_.cell? ⟨bf, offf + k * 6 + 2, none⟩ = some (.slice Y2 y2.length x2) ∧ w_.cell? ⟨bf, offf + k * 6 + 3, none⟩ = some (.slice Y3 y3.length x3) ∧ w_.cell? ⟨bf, offf + k * 6 + 4, none⟩ = some (.bool y4) ∧ w_.cell? ⟨bf, offf + k * 6 + 5, none⟩ = some (.slice Y5 y5.length x5))) (by kernel_rfl) ?_ (fun hHeld => ?_)
                  · (try dsimp only)
                    (first | exact ⟨b00, b01, e_0, e_1, e_2, e_3, e_4, e_5⟩ | exact ⟨B2.out.cell 0, B2.out.cell 1, He_0.out _ HB2.out, He_1.out _ HB2.out, He_2.out _ HB2.out, He_3.out _ HB2.out, He_4.out _ HB2.out, He_5.out _ HB2.out⟩ | exact ⟨B3.out.cell 0, B3.out.cell 1, He_0.out _ HB3.out, He_1.out _ HB3.out, He_2.out _ HB3.out, He_3.out _ HB3.out, He_4.out _ HB3.out, He_5.out _ HB3.out⟩)
                  refine regTake (i := 0) (v := ?_) rfl (by kernel_rfl) (by kernel_rfl) (by kernel_rfl) (fun _ _ _ h => h) (by rfl) ?_ (by assumption) ?_
                  rotate_left
                  · intro w_ hSw
                    (try dsimp only at hSw)
                    go_simp
                    (try with_reducible rfl)
                  try simp only [Act.put, List.setIfInBounds_toArray, List.set_cons_zero, List.set_cons_succ]
                  refine regTake (i := 1) (v := ?_) rfl (by kernel_rfl) (by kernel_rfl) (by kernel_rfl) (fun _ _ _ h => h) (by rfl) ?_ (by assumption) ?_
                  rotate_left
                  · intro w_ hSw
                    (try dsimp only at hSw)
                    go_simp
                    (try with_reducible rfl)
                  try simp only [Act.put, List.setIfInBounds_toArray, List.set_cons_zero, List.set_cons_succ]
                  refine regTake (i := 2) (v := ?_) rfl (by kernel_rfl) (by kernel_rfl) (by kernel_rfl) (fun _ _ _ h => h) (by rfl) ?_ (by assumption) ?_
                  rotate_left
                  · intro w_ hSw
                    (try dsimp only at hSw)
                    go_simp
                    (try with_reducible rfl)
                  try simp only [Act.put, List.setIfInBounds_toArray, List.set_cons_zero, List.set_cons_succ]
                  refine regTake (i := 3) (v := ?_) rfl (by kernel_rfl) (by kernel_rfl) (by kernel_rfl) (fun _ _ _ h => h) (by rfl) ?_ (by assumption) ?_
                  rotate_left
                  · intro w_ hSw
                    (try dsimp only at hSw)
                    go_simp
                    (try with_reducible rfl)
                  try simp only [Act.put, List.setIfInBounds_toArray, List.set_cons_zero, List.set_cons_succ]
                  refine regTake (i := 4) (v := ?_) rfl (by kernel_rfl) (by kernel_rfl) (by kernel_rfl) (fun _ _ _ h => h) (by rfl) ?_ (by assumption) ?_
                  rotate_left
                  · intro w_ hSw
                    (try dsimp only at hSw)
                    go_simp
                    (try with_reducible rfl)
                  try simp only [Act.put, List.setIfInBounds_toArray, List.set_cons_zero, List.set_cons_succ]
                  refine regTake (i := 5) (v := ?_) rfl (by kernel_rfl) (by kernel_rfl) (by kernel_rfl) (fun _ _ _ h => h) (by rfl) ?_ (by assumption) ?_
                  rotate_left
                  · intro w_ hSw
                    (try dsimp only at hSw)
                    go_simp
                    (try with_reducible rfl)
                  try simp only [Act.put, List.setIfInBounds_toArray, List.set_cons_zero, List.set_cons_succ]
                  refine regTake (i := 6) (v := ?_) rfl (by kernel_rfl) (by kernel_rfl) (by kernel_rfl) (fun _ _ _ h => h) (by rfl) ?_ (by assumption) ?_
                  rotate_left
                  · intro w_ hSw
                    (try dsimp only at hSw)
                    go_simp
                    (try with_reducible rfl)
                  try simp only [Act.put, List.setIfInBounds_toArray, List.set_cons_zero, List.set_cons_succ]
                  refine regTake (i := 8) (v := ?_) rfl (by kernel_rfl) (by kernel_rfl) (by kernel_rfl) (fun _ _ _ h => h) (by rfl) ?_ (by assumption) ?_
                  rotate_left
                  · intro w_ hSw
                    (try dsimp only at hSw)
                    go_simp
                    (try with_reducible rfl)
                  try simp only [Act.put, List.setIfInBounds_toArray, List.set_cons_zero, List.set_cons_succ]
                  refine regCall (i := 7) (by kernel_rfl) rfl (by rfl) (fun K hK => ?_)
                  go_simp
                  (go_at_call 11; refine (FindFunc_spec z0 cs y0 [.slice (some ⟨bf, offf, none⟩) z0.length c0, .slice (some ⟨bc, offc, none⟩) cs.length c1] _ hf9 (B := w.heap.size) HB1.out.size (by rw [FProgram.c_eq]; exact RdVs.cons (HC0.out.below HB1.out (Nat.le_refl _)) (RdVs.cons (HC1.out.below HB1.out (Nat.le_refl _)) (RdVs.nil _ _)))).mono ?_; rw [HFX.out]; rintro e w2 ⟨rfl, hb2⟩; have HB2 := Lib.hid (HB1.out.trans (hb2.mono HB1.out.size)); have B2 := Lib.hid (B1.out.below hb2 (Nat.le_refl _)); clear hb2)
                  refine hK.out _ _ ?_ (fun hHeld => ?_)
                  · (try dsimp only)
                    (first | exact ⟨b00, b01, e_0, e_1, e_2, e_3, e_4, e_5⟩ | exact ⟨B2.out.cell 0, B2.out.cell 1, He_0.out _ HB2.out, He_1.out _ HB2.out, He_2.out _ HB2.out, He_3.out _ HB2.out, He_4.out _ HB2.out, He_5.out _ HB2.out⟩ | exact ⟨B3.out.cell 0, B3.out.cell 1, He_0.out _ HB3.out, He_1.out _ HB3.out, He_2.out _ HB3.out, He_3.out _ HB3.out, He_4.out _ HB3.out, He_5.out _ HB3.out⟩)
                  clear hK K
                  try simp only [Act.put, List.setIfInBounds_toArray, List.set_cons_zero, List.set_cons_succ]
                  refine regTake (i := 9) (v := ?_) rfl (by kernel_rfl) (by kernel_rfl) (by kernel_rfl) (fun _ _ _ h => h) (by rfl) ?_ (by assumption) ?_
                  rotate_left
                  · intro w_ hSw
                    (try dsimp only at hSw)
                    go_simp
                    (try with_reducible rfl)
                  try simp only [Act.put, List.setIfInBounds_toArray, List.set_cons_zero, List.set_cons_succ]
                  refine regTake (i := 10) (v := ?_) rfl (by kernel_rfl) (by kernel_rfl) (by kernel_rfl) (fun _ _ _ h => h) (by rfl) ?_ (by assumption) ?_
                  rotate_left
                  · intro w_ hSw
                    (try dsimp only at hSw)
                    go_simp
                    (try with_reducible rfl)
                  try simp only [Act.put, List.setIfInBounds_toArray, List.set_cons_zero, List.set_cons_succ]
                  refine regTake (i := 11) (v := ?_) rfl (by kernel_rfl) (by kernel_rfl) (by kernel_rfl) (fun _ _ _ h => h) (by rfl) ?_ (by assumption) ?_
                  rotate_left
                  · intro w_ hSw
                    (try dsimp only at hSw)
                    go_simp
                    (try with_reducible rfl)
                  try simp only [Act.put, List.setIfInBounds_toArray, List.set_cons_zero, List.set_cons_succ]
                  refine regTake (i := 12) (v := ?_) rfl (by kernel_rfl) (by kernel_rfl) (by kernel_rfl) (fun _ _ _ h => h) (by rfl) ?_ (by assumption) ?_
                  rotate_left
                  · intro w_ hSw
                    (try dsimp only at hSw)
                    go_simp
                    (try with_reducible rfl)
                  try simp only [Act.put, List.setIfInBounds_toArray, List.set_cons_zero, List.set_cons_succ]
                  refine regTake (i := 13) (v := ?_) rfl (by kernel_rfl) (by kernel_rfl) (by kernel_rfl) (fun _ _ _ h => h) (by rfl) ?_ (by assumption) ?_
                  rotate_left
                  · intro w_ hSw
                    (try dsimp only at hSw)
                    go_simp
                    (try with_reducible rfl)
                  try simp only [Act.put, List.setIfInBounds_toArray, List.set_cons_zero, List.set_cons_succ]
                  refine regTake (i := 14) (v := ?_) rfl (by kernel_rfl) (by kernel_rfl) (by kernel_rfl) (fun _ _ _ h => h) (by rfl) ?_ (by assumption) ?_
                  rotate_left
                  · intro w_ hSw
                    (try dsimp only at hSw)
                    go_simp
                    (try with_reducible rfl)
                  try simp only [Act.put, List.setIfInBounds_toArray, List.set_cons_zero, List.set_cons_succ]
                  refine regTake (i := 15) (v := ?_) rfl (by kernel_rfl) (by kernel_rfl) (by kernel_rfl) (fun _ _ _ h => h) (by rfl) ?_ (by assumption) ?_
                  rotate_left
                  · intro w_ hSw
                    (try dsimp only at hSw)
                    go_simp
                    (try with_reducible rfl)
                  try simp only [Act.put, List.setIfInBounds_toArray, List.set_cons_zero, List.set_cons_succ]
                  refine regCall (i := 16) (by kernel_rfl) rfl (by rfl) (fun K hK => ?_)
                  go_simp
                  (go_at_call 12; refine (IsFunc_spec y0 y1 y2 y3 y4 y5 [.string y0, .slice Y1 y1.length x1, .slice Y2 y2.length x2, .slice Y3 y3.length x3, .bool y4, .slice Y5 y5.length x5] _ hfw2 hfk (B := w.heap.size) HB2.out.size (by rw [FFunc.c_eq]; exact RdVs.cons (by unfold RdC; rfl) (RdVs.cons (Qe_1.out.below HB2.out (Nat.le_refl _)) (RdVs.cons (Qe_2.out.below HB2.out (Nat.le_refl _)) (RdVs.cons (Qe_3.out.below HB2.out (Nat.le_refl _)) (RdVs.cons (by unfold RdC; rfl) (RdVs.cons (Qe_5.out.below HB2.out (Nat.le_refl _)) (RdVs.nil _ _)))))))).mono ?_; rw [HIF.out]; rintro e w3 ⟨rfl, hb3⟩; have HB3 := Lib.hid (HB2.out.trans (hb3.mono HB2.out.size)); have B3 := Lib.hid (B2.out.below hb3 (Nat.le_refl _)); clear hb3)
                  refine hK.out _ _ ?_ (fun hHeld => ?_)
                  · (try dsimp only)
                    (first | exact ⟨b00, b01, e_0, e_1, e_2, e_3, e_4, e_5⟩ | exact ⟨B2.out.cell 0, B2.out.cell 1, He_0.out _ HB2.out, He_1.out _ HB2.out, He_2.out _ HB2.out, He_3.out _ HB2.out, He_4.out _ HB2.out, He_5.out _ HB2.out⟩ | exact ⟨B3.out.cell 0, B3.out.cell 1, He_0.out _ HB3.out, He_1.out _ HB3.out, He_2.out _ HB3.out, He_3.out _ HB3.out, He_4.out _ HB3.out, He_5.out _ HB3.out⟩)
                  clear hK K
                  try simp only [Act.put, List.setIfInBounds_toArray, List.set_cons_zero, List.set_cons_succ]
                  refine regTake (i := 17) (v := ?_) rfl (by kernel_rfl) (by kernel_rfl) (by kernel_rfl) (fun _ _ _ h => h) (by rfl) ?_ (by assumption) ?_
                  rotate_left
                  · intro w_ hSw
                    (try dsimp only at hSw)
                    go_simp
                    (try with_reducible rfl)
                  try simp only [Act.put, List.setIfInBounds_toArray, List.set_cons_zero, List.set_cons_succ]
                  refine regTake (i := 18) (v := ?_) rfl (by kernel_rfl) (by kernel_rfl) (by kernel_rfl) (fun _ _ _ h => h) (by rfl) ?_ (by assumption) ?_
                  rotate_left
                  · intro w_ hSw
                    (try dsimp only at hSw)
                    go_simp
                    (try with_reducible rfl)
                  try simp only [Act.put, List.setIfInBounds_toArray, List.set_cons_zero, List.set_cons_succ]
                  refine wpAnyH_done (by kernel_rfl) ?_ _
                  go_wp2_with fail
                  go_ret
                  exact ⟨ret_bool HG.out, HB3.out⟩
                | true =>
                  have HIF := Lib.hid hif
                  have HAL2 := Lib.hid (on_succ HAL.out (by rw [hat, hif]; rfl))
                  clear hat
                  go_wp2_with fail
                  refine wp_region_held_drew (S := (fun w_ => w_.cell? ⟨w.heap.size, 0, none⟩ = some (.slice (some ⟨bf, offf, none⟩) z0.length c0) ∧ w_.cell? ⟨w.heap.size, 1, none⟩ = some (.slice (some ⟨bc, offc, none⟩) cs.length c1) ∧ w_.cell? ⟨bf, offf + k * 6, none⟩ = some (.string y0) ∧ w_.cell? ⟨bf, offf + k * 6 + 1, none⟩ = some (.slice Y1 y1.length x1) ∧ w_.cell? ⟨bf, offf + k * 6 + 2, none⟩ = some (.slice Y2 y2.length x2) ∧ w_.cell? ⟨bf, offf + k * 6 + 3, none⟩ = some (.slice Y3 y3.length x3) ∧ w_.cell? ⟨bf, offf + k * 6 + 4, none⟩ = some (.bool y4) ∧ w_.cell? ⟨bf, offf + k * 6 + 5, none⟩ = some (.slice Y5 y5.length x5))) (by kernel_rfl) ?_ (fun hHeld => ?_)
                  · (try dsimp only)
                    (first | exact ⟨b00, b01, e_0, e_1, e_2, e_3, e_4, e_5⟩ | exact ⟨B2.out.cell 0, B2.out.cell 1, He_0.out _ HB2.out, He_1.out _ HB2.out, He_2.out _ HB2.out, He_3.out _ HB2.out, He_4.out _ HB2.out, He_5.out _ HB2.out⟩ | exact ⟨B3.out.cell 0, B3.out.cell 1, He_0.out _ HB3.out, He_1.out _ HB3.out, He_2.out _ HB3.out, He_3.out _ HB3.out, He_4.out _ HB3.out, He_5.out _ HB3.out⟩)
                  refine regTake (i := 0) (v := ?_) rfl (by kernel_rfl) (by kernel_rfl) (by kernel_rfl) (fun _ _ _ h => h) (by rfl) ?_ (by assumption) ?_
                  rotate_left
                  · intro w_ hSw
                    (try dsimp only at hSw)
                    go_simp
                    (try with_reducible rfl)
                  try simp only [Act.put, List.setIfInBounds_toArray, List.set_cons_zero, List.set_cons_succ]
                  refine regTake (i := 1) (v := ?_) rfl (by kernel_rfl) (by kernel_rfl) (by kernel_rfl) (fun _ _ _ h => h) (by rfl) ?_ (by assumption) ?_
                  rotate_left
                  · intro w_ hSw
                    (try dsimp only at hSw)
                    go_simp
                    (try with_reducible rfl)
                  try simp only [Act.put, List.setIfInBounds_toArray, List.set_cons_zero, List.set_cons_succ]
                  refine regTake (i := 2) (v := ?_) rfl (by kernel_rfl) (by kernel_rfl) (by kernel_rfl) (fun _ _ _ h => h) (by rfl) ?_ (by assumption) ?_
                  rotate_left
                  · intro w_ hSw
                    (try dsimp only at hSw)
                    go_simp
                    (try with_reducible rfl)
                  try simp only [Act.put, List.setIfInBounds_toArray, List.set_cons_zero, List.set_cons_succ]
                  refine regTake (i := 3) (v := ?_) rfl (by kernel_rfl) (by kernel_rfl) (by kernel_rfl) (fun _ _ _ h => h) (by rfl) ?_ (by assumption) ?_
                  rotate_left
                  · intro w_ hSw
                    (try dsimp only at hSw)
                    go_simp
                    (try with_reducible rfl)
                  try simp only [Act.put, List.setIfInBounds_toArray, List.set_cons_zero, List.set_cons_succ]
                  refine regTake (i := 4) (v := ?_) rfl (by kernel_rfl) (by kernel_rfl) (by kernel_rfl) (fun _ _ _ h => h) (by rfl) ?_ (by assumption) ?_
                  rotate_left
                  · intro w_ hSw
                    (try dsimp only at hSw)
                    go_simp
                    (try with_reducible rfl)
                  try simp only [Act.put, List.setIfInBounds_toArray, List.set_cons_zero, List.set_cons_succ]
                  refine regTake (i := 5) (v := ?_) rfl (by kernel_rfl) (by kernel_rfl) (by kernel_rfl) (fun _ _ _ h => h) (by rfl) ?_ (by assumption) ?_
                  rotate_left
                  · intro w_ hSw
                    (try dsimp only at hSw)
                    go_simp
                    (try with_reducible rfl)
                  try simp only [Act.put, List.setIfInBounds_toArray, List.set_cons_zero, List.set_cons_succ]
                  refine regTake (i := 6) (v := ?_) rfl (by kernel_rfl) (by kernel_rfl) (by kernel_rfl) (fun _ _ _ h => h) (by rfl) ?_ (by assumption) ?_
                  rotate_left
                  · intro w_ hSw
                    (try dsimp only at hSw)
                    go_simp
                    (try with_reducible rfl)
                  try simp only [Act.put, List.setIfInBounds_toArray, List.set_cons_zero, List.set_cons_succ]
                  refine regTake (i := 8) (v := ?_) rfl (by kernel_rfl) (by kernel_rfl) (by kernel_rfl) (fun _ _ _ h => h) (by rfl) ?_ (by assumption) ?_
                  rotate_left
                  · intro w_ hSw
                    (try dsimp only at hSw)
                    go_simp
                    (try with_reducible rfl)
                  try simp only [Act.put, List.setIfInBounds_toArray, List.set_cons_zero, List.set_cons_succ]
                  refine regCall (i := 7) (by kernel_rfl) rfl (by rfl) (fun K hK => ?_)
                  go_simp
                  (go_at_call 11; refine (FindFunc_spec z0 cs y0 [.slice (some ⟨bf, offf, none⟩) z0.length c0, .slice (some ⟨bc, offc, none⟩) cs.length c1] _ hf9 (B := w.heap.size) HB1.out.size (by rw [FProgram.c_eq]; exact RdVs.cons (HC0.out.below HB1.out (Nat.le_refl _)) (RdVs.cons (HC1.out.below HB1.out (Nat.le_refl _)) (RdVs.nil _ _)))).mono ?_; rw [HFX.out]; rintro e w2 ⟨rfl, hb2⟩; have HB2 := Lib.hid (HB1.out.trans (hb2.mono HB1.out.size)); have B2 := Lib.hid (B1.out.below hb2 (Nat.le_refl _)); clear hb2)
                  refine hK.out _ _ ?_ (fun hHeld => ?_)
                  · (try dsimp only)
                    (first | exact ⟨b00, b01, e_0, e_1, e_2, e_3, e_4, e_5⟩ | exact ⟨B2.out.cell 0, B2.out.cell 1, He_0.out _ HB2.out, He_1.out _ HB2.out, He_2.out _ HB2.out, He_3.out _ HB2.out, He_4.out _ HB2.out, He_5.out _ HB2.out⟩ | exact ⟨B3.out.cell 0, B3.out.cell 1, He_0.out _ HB3.out, He_1.out _ HB3.out, He_2.out _ HB3.out, He_3.out _ HB3.out, He_4.out _ HB3.out, He_5.out _ HB3.out⟩)
                  clear hK K
                  try simp only [Act.put, List.setIfInBounds_toArray, List.set_cons_zero, List.set_cons_succ]
                  refine regTake (i := 9) (v := ?_) rfl (by kernel_rfl) (by kernel_rfl) (by kernel_rfl) (fun _ _ _ h => h) (by rfl) ?_ (by assumption) ?_
                  rotate_left
                  · intro w_ hSw
                    (try dsimp only at hSw)
                    go_simp
                    (try with_reducible rfl)
                  try simp only [Act.put, List.setIfInBounds_toArray, List.set_cons_zero, List.set_cons_succ]
                  refine regTake (i := 10) (v := ?_) rfl (by kernel_rfl) (by kernel_rfl) (by kernel_rfl) (fun _ _ _ h => h) (by rfl) ?_ (by assumption) ?_
                  rotate_left
                  · intro w_ hSw
                    (try dsimp only at hSw)
                    go_simp
                    (try with_reducible rfl)
                  try simp only [Act.put, List.setIfInBounds_toArray, List.set_cons_zero, List.set_cons_succ]
                  refine regTake (i := 11) (v := ?_) rfl (by kernel_rfl) (by kernel_rfl) (by kernel_rfl) (fun _ _ _ h => h) (by rfl) ?_ (by assumption) ?_
                  rotate_left
                  · intro w_ hSw
                    (try dsimp only at hSw)
                    go_simp
                    (try with_reducible rfl)
                  try simp only [Act.put, List.setIfInBounds_toArray, List.set_cons_zero, List.set_cons_succ]
                  refine regTake (i := 12) (v := ?_) rfl (by kernel_rfl) (by kernel_rfl) (by kernel_rfl) (fun _ _ _ h => h) (by rfl) ?_ (by assumption) ?_
                  rotate_left
                  · intro w_ hSw
                    (try dsimp only at hSw)
                    go_simp
                    (try with_reducible rfl)
                  try simp only [Act.put, List.setIfInBounds_toArray, List.set_cons_zero, List.set_cons_succ]
                  refine regTake (i := 13) (v := ?_) rfl (by kernel_rfl) (by kernel_rfl) (by kernel_rfl) (fun _ _ _ h => h) (by rfl) ?_ (by assumption) ?_
                  rotate_left
                  · intro w_ hSw
                    (try dsimp only at hSw)
                    go_simp
                    (try with_reducible rfl)
                  try simp only [Act.put, List.setIfInBounds_toArray, List.set_cons_zero, List.set_cons_succ]
                  refine regTake (i := 14) (v := ?_) rfl (by kernel_rfl) (by kernel_rfl) (by kernel_rfl) (fun _ _ _ h => h) (by rfl) ?_ (by assumption) ?_
                  rotate_left
                  · intro w_ hSw
                    (try dsimp only at hSw)
                    go_simp
                    (try with_reducible rfl)
                  try simp only [Act.put, List.setIfInBounds_toArray, List.set_cons_zero, List.set_cons_succ]
                  refine regTake (i := 15) (v := ?_) rfl (by kernel_rfl) (by kernel_rfl) (by kernel_rfl) (fun _ _ _ h => h) (by rfl) ?_ (by assumption) ?_
                  rotate_left
                  · intro w_ hSw
                    (try dsimp only at hSw)
                    go_simp
                    (try with_reducible rfl)
                  try simp only [Act.put, List.setIfInBounds_toArray, List.set_cons_zero, List.set_cons_succ]
                  refine regCall (i := 16) (by kernel_rfl) rfl (by rfl) (fun K hK => ?_)
                  go_simp
                  (go_at_call 12; refine (IsFunc_spec y0 y1 y2 y3 y4 y5 [.string y0, .slice Y1 y1.length x1, .slice Y2 y2.length x2, .slice Y3 y3.length x3, .bool y4, .slice Y5 y5.length x5] _ hfw2 hfk (B := w.heap.size) HB2.out.size (by rw [FFunc.c_eq]; exact RdVs.cons (by unfold RdC; rfl) (RdVs.cons (Qe_1.out.below HB2.out (Nat.le_refl _)) (RdVs.cons (Qe_2.out.below HB2.out (Nat.le_refl _)) (RdVs.cons (Qe_3.out.below HB2.out (Nat.le_refl _)) (RdVs.cons (by unfold RdC; rfl) (RdVs.cons (Qe_5.out.below HB2.out (Nat.le_refl _)) (RdVs.nil _ _)))))))).mono ?_; rw [HIF.out]; rintro e w3 ⟨rfl, hb3⟩; have HB3 := Lib.hid (HB2.out.trans (hb3.mono HB2.out.size)); have B3 := Lib.hid (B2.out.below hb3 (Nat.le_refl _)); clear hb3)
                  refine hK.out _ _ ?_ (fun hHeld => ?_)
                  · (try dsimp only)
                    (first | exact ⟨b00, b01, e_0, e_1, e_2, e_3, e_4, e_5⟩ | exact ⟨B2.out.cell 0, B2.out.cell 1, He_0.out _ HB2.out, He_1.out _ HB2.out, He_2.out _ HB2.out, He_3.out _ HB2.out, He_4.out _ HB2.out, He_5.out _ HB2.out⟩ | exact ⟨B3.out.cell 0, B3.out.cell 1, He_0.out _ HB3.out, He_1.out _ HB3.out, He_2.out _ HB3.out, He_3.out _ HB3.out, He_4.out _ HB3.out, He_5.out _ HB3.out⟩)
                  clear hK K
                  try simp only [Act.put, List.setIfInBounds_toArray, List.set_cons_zero, List.set_cons_succ]
                  refine regTake (i := 17) (v := ?_) rfl (by kernel_rfl) (by kernel_rfl) (by kernel_rfl) (fun _ _ _ h => h) (by rfl) ?_ (by assumption) ?_
                  rotate_left
                  · intro w_ hSw
                    (try dsimp only at hSw)
                    go_simp
                    (try with_reducible rfl)
                  try simp only [Act.put, List.setIfInBounds_toArray, List.set_cons_zero, List.set_cons_succ]
                  refine regTake (i := 18) (v := ?_) rfl (by kernel_rfl) (by kernel_rfl) (by kernel_rfl) (fun _ _ _ h => h) (by rfl) ?_ (by assumption) ?_
                  rotate_left
                  · intro w_ hSw
                    (try dsimp only at hSw)
                    go_simp
                    (try with_reducible rfl)
                  try simp only [Act.put, List.setIfInBounds_toArray, List.set_cons_zero, List.set_cons_succ]
                  refine wpAnyH_done (by kernel_rfl) ?_ _
                  go_wp2_with fail
                  go_roundw
                  case rel => exact ⟨k + 1, by omega, by go_num, HAL2.out, B3.out, HB3.out⟩
                  case measure => simp [intOf]; omega
            · obtain rfl : k = z0.length := by omega
              have HP2 := Lib.hid (show prF z0 cs = allK (clAt z0 cs) cs.length from by rw [HP.out, allK_t hall]; rfl)
              clear HP hall
              obtain ⟨wA, rfl⟩ : ∃ W : World, W = wr := ⟨_, rfl⟩
              have B1 := Lib.hid b0
              have HB1 := Lib.hid hb0
              clear b0 hb0
              go_wp2_with fail
              go_loopw [4] (fun i wr => ∃ k : Nat, k ≤ cs.length ∧ i = .int .i64 k ∧ (∀ j, j < k → clAt z0 cs j = true) ∧ Blk wr w.heap.size 31 #[.slice A0 z0.length c0, .slice (some ⟨bc, offc, none⟩) cs.length c1] ∧ Below w.heap.size w wr) (fun i _ => cs.length - (intOf i).toNat)
              case atStart => exact ⟨0, Nat.zero_le _, rfl, fun j hj => absurd hj (by omega), B1.out, HB1.out⟩
              case round =>
                clear B1 HB1 b00 b01 b0l
                obtain ⟨k, hk, rfl, hall, b0, hb0⟩ := hrel
                obtain ⟨wB, rfl⟩ : ∃ W : World, W = wr := ⟨_, rfl⟩
                have hws : w.heap.size ≤ wB.heap.size := hb0.size
                have b0l := b0.lt
                have b00 := b0.cell 0
                have b01 := b0.cell 1
                by_cases hlt : k < cs.length
                · have hx : cs[k]? = some cs[k] := List.getElem?_eq_getElem hlt
                  obtain ⟨x, hxe⟩ : ∃ x, cs[k] = x := ⟨_, rfl⟩
                  rw [hxe] at hx
                  clear hxe
                  have hfi := fidx_at (nm := FClass.nm) hx
                  obtain ⟨bn, offn, hbn, hblbn, hcc⟩ := RdC.at_ FClass.len HC1.out hx
                  simp only [Option.some.injEq, Addr.mk.injEq, and_true] at hbn
                  obtain ⟨rfl, rfl⟩ := hbn
                  have hnw := FClass.wts_at cs x (List.mem_of_getElem? hx)
                  obtain ⟨n0, n1, n2, n3⟩ := x
                  have hat := clAt_atS (l := z0) hx
                  clear hx
                  rw [FClass.wt_eq] at hnw
                  rw [FClass.c_eq] at hcc
                  obtain ⟨u0, e0, q0⟩ := hcc 0 _ rfl
                  obtain rfl := q0.val
                  have Hnn0 := Lib.hid (fun W (hb : Below w.heap.size w W) => (hb.cell (p := ⟨bc, offc + k * 4, none⟩) hblbc).trans (show w.cell? ⟨bc, offc + k * 4, none⟩ = some (.string n0) from by simpa using e0))
                  have nn0 := Hnn0.out _ hb0
                  obtain ⟨u1, e1, q1⟩ := hcc 1 _ rfl
                  obtain rfl := q1.val
                  have Hnn1 := Lib.hid (fun W (hb : Below w.heap.size w W) => (hb.cell (p := ⟨bc, offc + k * 4 + 1, none⟩) hblbc).trans (show w.cell? ⟨bc, offc + k * 4 + 1, none⟩ = some (.string n1) from by simpa using e1))
                  have nn1 := Hnn1.out _ hb0
                  obtain ⟨u2, e2, q2⟩ := hcc 2 _ rfl
                  obtain ⟨H2, h2, rfl⟩ := q2.form
                  have Hnn2 := Lib.hid (fun W (hb : Below w.heap.size w W) => (hb.cell (p := ⟨bc, offc + k * 4 + 2, none⟩) hblbc).trans (show w.cell? ⟨bc, offc + k * 4 + 2, none⟩ = some (.slice H2 n2.length h2) from by simpa using e2))
                  have nn2 := Hnn2.out _ hb0
                  obtain ⟨u3, e3, q3⟩ := hcc 3 _ rfl
                  obtain ⟨H3, h3, rfl⟩ := q3.form
                  have Hnn3 := Lib.hid (fun W (hb : Below w.heap.size w W) => (hb.cell (p := ⟨bc, offc + k * 4 + 3, none⟩) hblbc).trans (show w.cell? ⟨bc, offc + k * 4 + 3, none⟩ = some (.slice H3 n3.length h3) from by simpa using e3))
                  have nn3 := Hnn3.out _ hb0
                  have Qnn2 := Lib.hid q2
                  have Qnn3 := Lib.hid q3
                  clear hcc e0 q0 e1 q1 e2 q2 e3 q3
                  rw [show FClass.nm ⟨n0, n1, n2, n3⟩ = n0 from rfl] at hfi
                  have hl2 : n2.length ≤ 9223372036854775807 := by omega
                  have hl3 : n3.length ≤ 9223372036854775807 := by omega
                  have HB1 := Lib.hid (hb0.alloc hb0.size (.cells #[.string n0, .string n1, .slice H2 n2.length h2, .slice H3 n3.length h3] 40))
                  have B1 := Lib.hid (b0.alloc (.cells #[.string n0, .string n1, .slice H2 n2.length h2, .slice H3 n3.length h3] 40))
                  have C1 := Lib.hid (Blk.new wB 40 #[.string n0, .string n1, .slice H2 n2.length h2, .slice H3 n3.length h3])
                  have HAL := Lib.hid hall
                  clear hall b0 hb0
                  cases hh : hasS (nmR FClass.nm cs k) n0.toList with
                  | true =>
                    obtain ⟨v, hv⟩ : ∃ v : Int, fidx FClass.nm cs n0 = v := ⟨_, rfl⟩
                    have HFX := Lib.hid hv
                    have hvk : ¬ v = (k : Int) := fun e => by rw [hfi.1 (hv.trans e)] at hh; cases hh
                    have hvk2 : (v == (k : Int)) = false := beq_false_of_ne hvk
                    have hvk3 : (v != (k : Int)) = true := by simp [bne, hvk2]
                    have HG := Lib.hid (show false = prF z0 cs from by rw [HP2.out, allK_f hlt (by rw [hat, hh]; rfl)])
                    clear hat hfi hv
                    go_wp2_with (go_at_call 13; refine (FindClass_spec cs n0 _ _ hc9 (B := w.heap.size) HB1.out.size (HC1.out.below HB1.out (Nat.le_refl _))).mono ?_; rw [HFX.out]; rintro e w2 ⟨rfl, hb2⟩; have HB2 := Lib.hid (HB1.out.trans (hb2.mono HB1.out.size)); have B2 := Lib.hid (B1.out.below hb2 (Nat.le_refl _)); have C2 := Lib.hid (C1.out.below hb2 (Nat.le_refl _)); have c2l := C2.out.lt; have c22 := C2.out.cell 2)
                    go_ret
                    exact ⟨ret_bool HG.out, HB2.out⟩
                  | false =>
                    obtain ⟨v, hv⟩ : ∃ v : Int, fidx FClass.nm cs n0 = v := ⟨_, rfl⟩
                    have HFX := Lib.hid hv
                    have hvk2 : (v == (k : Int)) = true := by rw [← hv, hfi.2 hh]; simp
                    have hvk3 : (v != (k : Int)) = false := by simp only [bne, hvk2]; rfl
                    clear hv hfi
                    rw [hh] at hat
                    have HAT := Lib.hid hat
                    clear hat
                    go_wp2_with (go_at_call 13; refine (FindClass_spec cs n0 _ _ hc9 (B := w.heap.size) HB1.out.size (HC1.out.below HB1.out (Nat.le_refl _))).mono ?_; rw [HFX.out]; rintro e w2 ⟨rfl, hb2⟩; have HB2 := Lib.hid (HB1.out.trans (hb2.mono HB1.out.size)); have B2 := Lib.hid (B1.out.below hb2 (Nat.le_refl _)); have C2 := Lib.hid (C1.out.below hb2 (Nat.le_refl _)); have c2l := C2.out.lt; have c22 := C2.out.cell 2)
                    go_loopw [6] (fun i wr => ∃ q : Nat, q ≤ n2.length ∧ i = .int .i64 q ∧ (∀ j, j < q → fdAt n2 j = true) ∧ Blk wr w.heap.size 31 #[.slice A0 z0.length c0, .slice (some ⟨bc, offc, none⟩) cs.length c1] ∧ Blk wr wB.heap.size 40 #[.string n0, .string n1, .slice H2 n2.length h2, .slice H3 n3.length h3] ∧ Below w.heap.size w wr) (fun i _ => n2.length - (intOf i).toNat)
                    case atStart => exact ⟨0, Nat.zero_le _, rfl, fun j hj => absurd hj (by omega), B2.out, C2.out, HB2.out⟩
                    case round =>
                      clear B2 C2 HB2 c2l c22 b00 b01 b0l
                      obtain ⟨q, hq9, rfl, hfa, b0, cb, hb0⟩ := hrel
                      obtain ⟨wC, rfl⟩ : ∃ W : World, W = wr := ⟨_, rfl⟩
                      have hwc : w.heap.size ≤ wC.heap.size := hb0.size
                      have hcl := cb.lt
                      have cb2 := cb.cell 2
                      have cb3 := cb.cell 3
                      by_cases hlq : q < n2.length
                      · obtain ⟨x, hx⟩ : ∃ x, n2[q]? = some x := ⟨_, List.getElem?_eq_getElem hlq⟩
                        have hfr := nmR_succ (nm := FField.nmF) hx
                        have hfw := FField.wts_at n2 x (List.mem_of_getElem? hx)
                        obtain ⟨be, offe, hbe, hblbe, hcc⟩ := RdC.at_ FField.len Qnn2.out hx
                        obtain ⟨f0, f1, f2, ⟨f3, f4, f5, f6, f7⟩⟩ := x
                        have hat := fdAt_atS hx
                        clear hx
                        rw [FField.wt_eq] at hfw
                        subst hbe
                        rw [FField.c_eq] at hcc
                        obtain ⟨u0, e0, q0⟩ := hcc 0 _ rfl
                        obtain rfl := q0.val
                        have Hd0 := Lib.hid (fun W (hb : Below w.heap.size w W) => (hb.cell (p := ⟨be, offe + q * 8, none⟩) hblbe).trans (show w.cell? ⟨be, offe + q * 8, none⟩ = some (.string f0) from by simpa using e0))
                        have d0 := Hd0.out _ hb0
                        obtain ⟨u1, e1, q1⟩ := hcc 1 _ rfl
                        obtain rfl := q1.val
                        have Hd1 := Lib.hid (fun W (hb : Below w.heap.size w W) => (hb.cell (p := ⟨be, offe + q * 8 + 1, none⟩) hblbe).trans (show w.cell? ⟨be, offe + q * 8 + 1, none⟩ = some (.string f1) from by simpa using e1))
                        have d1 := Hd1.out _ hb0
                        obtain ⟨u2, e2, q2⟩ := hcc 2 _ rfl
                        obtain rfl := q2.val
                        have Hd2 := Lib.hid (fun W (hb : Below w.heap.size w W) => (hb.cell (p := ⟨be, offe + q * 8 + 2, none⟩) hblbe).trans (show w.cell? ⟨be, offe + q * 8 + 2, none⟩ = some (.bool f2) from by simpa using e2))
                        have d2 := Hd2.out _ hb0
                        obtain ⟨u3, e3, q3⟩ := hcc 3 _ rfl
                        obtain rfl := q3.val
                        have Hd3 := Lib.hid (fun W (hb : Below w.heap.size w W) => (hb.cell (p := ⟨be, offe + q * 8 + 3, none⟩) hblbe).trans (show w.cell? ⟨be, offe + q * 8 + 3, none⟩ = some (.int .i64 f3) from by simpa using e3))
                        have d3 := Hd3.out _ hb0
                        obtain ⟨u4, e4, q4⟩ := hcc 4 _ rfl
                        obtain rfl := q4.val
                        have Hd4 := Lib.hid (fun W (hb : Below w.heap.size w W) => (hb.cell (p := ⟨be, offe + q * 8 + 4, none⟩) hblbe).trans (show w.cell? ⟨be, offe + q * 8 + 4, none⟩ = some (.int .i64 f4) from by simpa using e4))
                        have d4 := Hd4.out _ hb0
                        obtain ⟨u5, e5, q5⟩ := hcc 5 _ rfl
                        obtain rfl := q5.val
                        have Hd5 := Lib.hid (fun W (hb : Below w.heap.size w W) => (hb.cell (p := ⟨be, offe + q * 8 + 5, none⟩) hblbe).trans (show w.cell? ⟨be, offe + q * 8 + 5, none⟩ = some (.string f5) from by simpa using e5))
                        have d5 := Hd5.out _ hb0
                        obtain ⟨u6, e6, q6⟩ := hcc 6 _ rfl
                        obtain rfl := q6.val
                        have Hd6 := Lib.hid (fun W (hb : Below w.heap.size w W) => (hb.cell (p := ⟨be, offe + q * 8 + 6, none⟩) hblbe).trans (show w.cell? ⟨be, offe + q * 8 + 6, none⟩ = some (.int .i64 f6) from by simpa using e6))
                        have d6 := Hd6.out _ hb0
                        obtain ⟨u7, e7, q7⟩ := hcc 7 _ rfl
                        obtain ⟨F7, p7, rfl⟩ := q7.form
                        have Hd7 := Lib.hid (fun W (hb : Below w.heap.size w W) => (hb.cell (p := ⟨be, offe + q * 8 + 7, none⟩) hblbe).trans (show w.cell? ⟨be, offe + q * 8 + 7, none⟩ = some (.slice F7 f7.length p7) from by simpa using e7))
                        have d7 := Hd7.out _ hb0
                        have Qd7 := Lib.hid q7
                        clear hcc e0 q0 e1 q1 e2 q2 e3 q3 e4 q4 e5 q5 e6 q6 e7 q7
                        have hxo : f0.size ≤ 9223372036854775807 := by omega
                        have hvw : FValue.wt ⟨f3, f4, f5, f6, f7⟩ ≤ 1000000000 := by rw [FValue.wt_eq]; omega
                        have HB1 := Lib.hid hb0
                        have B1 := Lib.hid b0
                        have C1 := Lib.hid cb
                        have HFA := Lib.hid hfa
                        clear hfa b0 cb hb0 hfr
                        have HD := Lib.hid (fun (h : fdAt n2 q = false) => show false = prF z0 cs from by rw [HP2.out, allK_f hlt (by rw [HAT.out, allK_f hlq h]; rfl)])
                        cases hiv : isV ⟨f3, f4, f5, f6, f7⟩ with
                        | false =>
                          have HIV := Lib.hid hiv
                          have HG := Lib.hid (HD.out (by rw [hat, hiv]; simp))
                          clear hat
                          go_wp2_with (first | (go_at_call 14; refine (isV_spec ⟨f3, f4, f5, f6, f7⟩ hvw [.int .i64 f3, .int .i64 f4, .string f5, .int .i64 f6, .slice F7 f7.length p7] _ w.heap.size HB1.out.size (by rw [FValue.c_eq]; exact RdVs.cons (by unfold RdC; rfl) (RdVs.cons (by unfold RdC; rfl) (RdVs.cons (by unfold RdC; rfl) (RdVs.cons (by unfold RdC; rfl) (RdVs.cons (Qd7.out.below HB1.out (Nat.le_refl _)) (RdVs.nil _ _))))))).mono ?_; rw [HIV.out]; rintro e w2 ⟨rfl, hb2⟩; have HB2 := Lib.hid (HB1.out.trans (hb2.mono HB1.out.size)); have B2 := Lib.hid (B1.out.below hb2 (Nat.le_refl _)); have C2 := Lib.hid (C1.out.below hb2 (Nat.le_refl _)); have c2l := C2.out.lt; have c22 := C2.out.cell 2; have d23 := Hd3.out _ HB2.out; have d20 := Hd0.out _ HB2.out))
                          go_ret
                          exact ⟨ret_bool HG.out, HB2.out⟩
                        | true =>
                          have HIV := Lib.hid hiv
                          have hf3 := isV_kind hiv
                          rw [hiv, show vkind ⟨f3, f4, f5, f6, f7⟩ = f3 from rfl] at hat
                          by_cases hgt : (3 : Int) < f3
                          · have h3d : decide ((3 : Int) < f3) = true := decide_eq_true hgt
                            have hrg : inB f3 0 3 = false := decide_eq_false fun h => by omega
                            have HG := Lib.hid (HD.out (by rw [hat, hrg]; simp))
                            clear hat
                            go_wp2_with (first | (go_at_call 14; refine (isV_spec ⟨f3, f4, f5, f6, f7⟩ hvw [.int .i64 f3, .int .i64 f4, .string f5, .int .i64 f6, .slice F7 f7.length p7] _ w.heap.size HB1.out.size (by rw [FValue.c_eq]; exact RdVs.cons (by unfold RdC; rfl) (RdVs.cons (by unfold RdC; rfl) (RdVs.cons (by unfold RdC; rfl) (RdVs.cons (by unfold RdC; rfl) (RdVs.cons (Qd7.out.below HB1.out (Nat.le_refl _)) (RdVs.nil _ _))))))).mono ?_; rw [HIV.out]; rintro e w2 ⟨rfl, hb2⟩; have HB2 := Lib.hid (HB1.out.trans (hb2.mono HB1.out.size)); have B2 := Lib.hid (B1.out.below hb2 (Nat.le_refl _)); have C2 := Lib.hid (C1.out.below hb2 (Nat.le_refl _)); have c2l := C2.out.lt; have c22 := C2.out.cell 2; have d23 := Hd3.out _ HB2.out; have d20 := Hd0.out _ HB2.out))
                            go_ret
                            exact ⟨ret_bool HG.out, HB2.out⟩
                          have h3d : decide ((3 : Int) < f3) = false := decide_eq_false hgt
                          have hrg : inB f3 0 3 = true := decide_eq_true (by omega)
                          rw [hrg] at hat
                          cases hgf : goodF f0 with
                          | false =>
                            have HGF := Lib.hid hgf
                            have HG := Lib.hid (HD.out (by rw [hat, hgf]; simp))
                            clear hat
                            go_wp2_with (first | (go_at_call 14; refine (isV_spec ⟨f3, f4, f5, f6, f7⟩ hvw [.int .i64 f3, .int .i64 f4, .string f5, .int .i64 f6, .slice F7 f7.length p7] _ w.heap.size HB1.out.size (by rw [FValue.c_eq]; exact RdVs.cons (by unfold RdC; rfl) (RdVs.cons (by unfold RdC; rfl) (RdVs.cons (by unfold RdC; rfl) (RdVs.cons (by unfold RdC; rfl) (RdVs.cons (Qd7.out.below HB1.out (Nat.le_refl _)) (RdVs.nil _ _))))))).mono ?_; rw [HIV.out]; rintro e w2 ⟨rfl, hb2⟩; have HB2 := Lib.hid (HB1.out.trans (hb2.mono HB1.out.size)); have B2 := Lib.hid (B1.out.below hb2 (Nat.le_refl _)); have C2 := Lib.hid (C1.out.below hb2 (Nat.le_refl _)); have c2l := C2.out.lt; have c22 := C2.out.cell 2; have d23 := Hd3.out _ HB2.out; have d20 := Hd0.out _ HB2.out) | (go_at_call 15; refine (good_spec f0 _ hxo).mono ?_; rw [HGF.out]; rintro e w3 ⟨rfl, hb3⟩; have HB3 := Lib.hid (HB2.out.trans (hb3.mono HB2.out.size)); have B3 := Lib.hid (B2.out.below hb3 (Nat.le_refl _)); have C3 := Lib.hid (C2.out.below hb3 (Nat.le_refl _))))
                            go_ret
                            exact ⟨ret_bool HG.out, HB3.out⟩
                          | true =>
                            have HGF := Lib.hid hgf
                            rw [hgf] at hat
                            have HAF := Lib.hid hat
                            clear hat
                            go_wp2_with (first | (go_at_call 14; refine (isV_spec ⟨f3, f4, f5, f6, f7⟩ hvw [.int .i64 f3, .int .i64 f4, .string f5, .int .i64 f6, .slice F7 f7.length p7] _ w.heap.size HB1.out.size (by rw [FValue.c_eq]; exact RdVs.cons (by unfold RdC; rfl) (RdVs.cons (by unfold RdC; rfl) (RdVs.cons (by unfold RdC; rfl) (RdVs.cons (by unfold RdC; rfl) (RdVs.cons (Qd7.out.below HB1.out (Nat.le_refl _)) (RdVs.nil _ _))))))).mono ?_; rw [HIV.out]; rintro e w2 ⟨rfl, hb2⟩; have HB2 := Lib.hid (HB1.out.trans (hb2.mono HB1.out.size)); have B2 := Lib.hid (B1.out.below hb2 (Nat.le_refl _)); have C2 := Lib.hid (C1.out.below hb2 (Nat.le_refl _)); have c2l := C2.out.lt; have c22 := C2.out.cell 2; have d23 := Hd3.out _ HB2.out; have d20 := Hd0.out _ HB2.out) | (go_at_call 15; refine (good_spec f0 _ hxo).mono ?_; rw [HGF.out]; rintro e w3 ⟨rfl, hb3⟩; have HB3 := Lib.hid (HB2.out.trans (hb3.mono HB2.out.size)); have B3 := Lib.hid (B2.out.below hb3 (Nat.le_refl _)); have C3 := Lib.hid (C2.out.below hb3 (Nat.le_refl _))))
                            go_loopw [7] (fun i wr => ∃ j : Nat, j ≤ q ∧ i = .int .i64 j ∧ hasS (nmR FField.nmF n2 j) f0.toList = false ∧ Blk wr w.heap.size 31 #[.slice A0 z0.length c0, .slice (some ⟨bc, offc, none⟩) cs.length c1] ∧ Blk wr wB.heap.size 40 #[.string n0, .string n1, .slice (some ⟨be, offe, none⟩) n2.length h2, .slice H3 n3.length h3] ∧ Below w.heap.size w wr) (fun i _ => q - (intOf i).toNat)
                            case atStart => exact ⟨0, Nat.zero_le _, rfl, rfl, B3.out, C3.out, HB3.out⟩
                            case round =>
                              clear B3 C3 HB3 B2 C2 HB2 B1 C1 HB1 c2l c22 d23 d20 cb2 cb3 hcl
                              obtain ⟨j, hj9, rfl, hno, b0, cb, hb0⟩ := hrel
                              obtain ⟨wD, rfl⟩ : ∃ W : World, W = wr := ⟨_, rfl⟩
                              have hwd : w.heap.size ≤ wD.heap.size := hb0.size
                              have hcl := cb.lt
                              have cb2 := cb.cell 2
                              have d00 := Hd0.out _ hb0
                              by_cases hjq : j < q
                              · obtain ⟨x, hx⟩ : ∃ x, n2[j]? = some x := ⟨_, List.getElem?_eq_getElem (by omega)⟩
                                have hfr := nmR_succ (nm := FField.nmF) hx
                                obtain ⟨bj, offj, hbj, hblbj, hcc⟩ := RdC.at_ FField.len Qnn2.out hx
                                simp only [Option.some.injEq, Addr.mk.injEq, and_true] at hbj
                                obtain ⟨rfl, rfl⟩ := hbj
                                clear hx
                                obtain ⟨g0, g1, g2, ⟨g3, g4, g5, g6, g7⟩⟩ := x
                                rw [FField.c_eq] at hcc
                                obtain ⟨u0, e0, q0⟩ := hcc 0 _ rfl
                                obtain rfl := q0.val
                                have gj : wD.cell? ⟨be, offe + j * 8, none⟩ = some (.string g0) := (hb0.cell (p := ⟨be, offe + j * 8, none⟩) hblbe).trans (by simpa using e0)
                                clear hcc e0 q0
                                rw [show FField.nmF ⟨g0, g1, g2, ⟨g3, g4, g5, g6, g7⟩⟩ = g0 from rfl] at hfr
                                have hjl : j < n2.length := by omega
                                have B1 := Lib.hid b0
                                have C1 := Lib.hid cb
                                have HB1 := Lib.hid hb0
                                clear b0 cb hb0
                                cases hgn : (g0.toList == f0.toList) with
                                | true =>
                                  have HG := Lib.hid (HD.out (by
                                    have h2 : hasS (nmR FField.nmF n2 q) f0.toList = true := nmR_mem.2 ((nmR_mem.1 (show hasS (nmR FField.nmF n2 (j + 1)) f0.toList = true from by rw [hfr, hasS_cons, show (f0.toList == g0.toList) = true from by rw [beq_iff_eq] at hgn ⊢; exact hgn.symm]; rfl)).imp fun m h => h.imp fun e h => ⟨by omega, h.2⟩)
                                    rw [HAF.out, h2]; rfl))
                                  clear hno hfr
                                  go_wp2_with fail
                                  go_quiet (fail)
                                  go_wp2_with fail
                                  go_ret
                                  exact ⟨ret_bool HG.out, below_drewN HB1.out _⟩
                                | false =>
                                  have HNO := Lib.hid (show hasS (nmR FField.nmF n2 (j + 1)) f0.toList = false from by rw [hfr, hasS_cons, hno, show (f0.toList == g0.toList) = false from by rw [beq_eq_false_iff_ne] at hgn ⊢; exact fun e => hgn e.symm]; rfl)
                                  clear hno hfr
                                  go_wp2_with fail
                                  go_quiet (fail)
                                  go_wp2_with fail
                                  go_roundw
                                  case rel => exact ⟨j + 1, by omega, by go_num, HNO.out, B1.out.below (below_drewN (Below.refl wD.heap.size wD) _) (Nat.le_refl _), C1.out.below (below_drewN (Below.refl wD.heap.size wD) _) (Nat.le_refl _), below_drewN HB1.out _⟩
                                  case measure => simp [intOf]; omega
                              · obtain rfl : j = q := by omega
                                have HFA2 := Lib.hid (on_succ HFA.out (show fdAt n2 j = true from by rw [HAF.out, hno]; rfl))
                                have B1 := Lib.hid b0
                                have C1 := Lib.hid cb
                                have HB1 := Lib.hid hb0
                                clear hno b0 cb hb0
                                go_wp2_with fail
                                go_roundw
                                case rel => exact ⟨j + 1, by omega, by go_num, HFA2.out, B1.out, C1.out, HB1.out⟩
                                case measure => simp [intOf]; omega
                      · obtain rfl : q = n2.length := by omega
                        have HAT2 := Lib.hid (show clAt z0 cs k = allK (mtAt z0 n3) n3.length from by rw [HAT.out, allK_t hfa]; simp)
                        have B1 := Lib.hid b0
                        have C1 := Lib.hid cb
                        have HB1 := Lib.hid hb0
                        clear hfa b0 cb hb0 HAT
                        go_wp2_with fail
                        go_loopw [8] (fun i wr => ∃ q : Nat, q ≤ n3.length ∧ i = .int .i64 q ∧ (∀ j, j < q → mtAt z0 n3 j = true) ∧ Blk wr w.heap.size 31 #[.slice A0 z0.length c0, .slice (some ⟨bc, offc, none⟩) cs.length c1] ∧ Blk wr wB.heap.size 40 #[.string n0, .string n1, .slice H2 n2.length h2, .slice H3 n3.length h3] ∧ Below w.heap.size w wr) (fun i _ => n3.length - (intOf i).toNat)
                        case atStart => exact ⟨0, Nat.zero_le _, rfl, fun j hj => absurd hj (by omega), B1.out, C1.out, HB1.out⟩
                        case round =>
                          clear B1 C1 HB1 cb2 cb3 hcl
                          obtain ⟨q, hq9, rfl, hfa, b0, cb, hb0⟩ := hrel
                          obtain ⟨wD, rfl⟩ : ∃ W : World, W = wr := ⟨_, rfl⟩
                          have hwd : w.heap.size ≤ wD.heap.size := hb0.size
                          have hcl := cb.lt
                          have cb3 := cb.cell 3
                          have b00 := b0.cell 0
                          have b01 := b0.cell 1
                          have b0l := b0.lt
                          by_cases hlq : q < n3.length
                          · obtain ⟨x, hx⟩ : ∃ x, n3[q]? = some x := ⟨_, List.getElem?_eq_getElem hlq⟩
                            have hfw := FMethod.wts_at n3 x (List.mem_of_getElem? hx)
                            obtain ⟨bm, offm, hbm, hblbm, hcc⟩ := RdC.at_ FMethod.len Qnn3.out hx
                            obtain ⟨m0, m1, m2, m3, m4⟩ := x
                            have hat := mtAt_atS (l := z0) hx
                            clear hx
                            rw [FMethod.wt_eq] at hfw
                            subst hbm
                            rw [FMethod.c_eq] at hcc
                            obtain ⟨u0, e0, q0⟩ := hcc 0 _ rfl
                            obtain rfl := q0.val
                            have Hk_0 := Lib.hid (fun W (hb : Below w.heap.size w W) => (hb.cell (p := ⟨bm, offm + q * 5, none⟩) hblbm).trans (show w.cell? ⟨bm, offm + q * 5, none⟩ = some (.string m0) from by simpa using e0))
                            have k_0 := Hk_0.out _ hb0
                            obtain ⟨u1, e1, q1⟩ := hcc 1 _ rfl
                            obtain rfl := q1.val
                            have Hk_1 := Lib.hid (fun W (hb : Below w.heap.size w W) => (hb.cell (p := ⟨bm, offm + q * 5 + 1, none⟩) hblbm).trans (show w.cell? ⟨bm, offm + q * 5 + 1, none⟩ = some (.string m1) from by simpa using e1))
                            have k_1 := Hk_1.out _ hb0
                            obtain ⟨u2, e2, q2⟩ := hcc 2 _ rfl
                            obtain rfl := q2.val
                            have Hk_2 := Lib.hid (fun W (hb : Below w.heap.size w W) => (hb.cell (p := ⟨bm, offm + q * 5 + 2, none⟩) hblbm).trans (show w.cell? ⟨bm, offm + q * 5 + 2, none⟩ = some (.string m2) from by simpa using e2))
                            have k_2 := Hk_2.out _ hb0
                            obtain ⟨u3, e3, q3⟩ := hcc 3 _ rfl
                            obtain rfl := q3.val
                            have Hk_3 := Lib.hid (fun W (hb : Below w.heap.size w W) => (hb.cell (p := ⟨bm, offm + q * 5 + 3, none⟩) hblbm).trans (show w.cell? ⟨bm, offm + q * 5 + 3, none⟩ = some (.bool m3) from by simpa using e3))
                            have k_3 := Hk_3.out _ hb0
                            obtain ⟨u4, e4, q4⟩ := hcc 4 _ rfl
                            obtain rfl := q4.val
                            have Hk_4 := Lib.hid (fun W (hb : Below w.heap.size w W) => (hb.cell (p := ⟨bm, offm + q * 5 + 4, none⟩) hblbm).trans (show w.cell? ⟨bm, offm + q * 5 + 4, none⟩ = some (.bool m4) from by simpa using e4))
                            have k_4 := Hk_4.out _ hb0
                            clear hcc e0 q0 e1 q1 e2 q2 e3 q3 e4 q4
                            obtain ⟨sk, hsk⟩ : ∃ s, m2 ++ ⟨#[58, 58]⟩ ++ m0 = s := ⟨_, rfl⟩
                            rw [hsk] at hat
                            have hz1 : m2.size ≤ 1000000000 := by omega
                            have hz2 : m0.size ≤ 1000000000 := by omega
                            have h58 : (⟨#[58, 58]⟩ : ByteArray).size = 2 := rfl
                            have g1 : ∀ W : World, (Op.stringOp .add m2 (⟨#[58, 58]⟩ : ByteArray)).run Tryz.prog W = .ok (.string (m2 ++ ⟨#[58, 58]⟩)) W := fun W => run_string_add_sum W _ _ (by omega)
                            have g2 : ∀ W : World, (Op.stringOp .add (m2 ++ (⟨#[58, 58]⟩ : ByteArray)) m0).run Tryz.prog W = .ok (.string sk) W := fun W => by rw [← hsk]; exact run_string_add_sum W _ _ (by rw [ByteArray.size_append]; omega)
                            obtain ⟨v, hv⟩ : ∃ v : Int, fidx FFunc.nm z0 sk = v := ⟨_, rfl⟩
                            have HFX := Lib.hid hv
                            have HAM := Lib.hid hat
                            clear hsk hv hat
                            have HB1 := Lib.hid hb0.drew
                            have B1 := Lib.hid b0.drew
                            have C1 := Lib.hid cb.drew
                            have HFA := Lib.hid hfa
                            clear hfa b0 cb hb0
                            have HD := Lib.hid (fun (h : mtAt z0 n3 q = false) => show false = prF z0 cs from by rw [HP2.out, allK_f hlt (by rw [HAT2.out, allK_f hlq h])])
                            go_wp2_with fail
                            refine wp_region_held_drew (S := (fun w_ => w_.cell? ⟨w.heap.size, 0, none⟩ = some (.slice A0 z0.length c0) ∧ w_.cell? ⟨w.heap.size, 1, none⟩ = some (.slice (some ⟨bc, offc, none⟩) cs.length c1) ∧ w_.cell? ⟨wB.heap.size, 3, none⟩ = some (.slice (some ⟨bm, offm, none⟩) n3.length h3) ∧ w_.cell? ⟨bm, offm + q * 5, none⟩ = some (.string m0) ∧ w_.cell? ⟨bm, offm + q * 5 + 2, none⟩ = some (.string m2))) (by kernel_rfl) ?_ (fun hHeld => ?_)
                            · (try dsimp only)
                              (first | exact ⟨b00, b01, cb3, k_0, k_2⟩ | exact ⟨B2.out.cell 0, B2.out.cell 1, C2.out.cell 3, Hk_0.out _ HB2.out, Hk_2.out _ HB2.out⟩)
                            refine regTake (i := 0) (v := ?_) rfl (by kernel_rfl) (by kernel_rfl) (by kernel_rfl) (fun _ _ _ h => h) (by rfl) ?_ (by assumption) ?_
                            rotate_left
                            · intro w_ hSw
                              (try dsimp only at hSw)
                              go_simp
                              (try with_reducible rfl)
                            try simp only [Act.put, List.setIfInBounds_toArray, List.set_cons_zero, List.set_cons_succ]
                            refine regTake (i := 1) (v := ?_) rfl (by kernel_rfl) (by kernel_rfl) (by kernel_rfl) (fun _ _ _ h => h) (by rfl) ?_ (by assumption) ?_
                            rotate_left
                            · intro w_ hSw
                              (try dsimp only at hSw)
                              go_simp
                              (try with_reducible rfl)
                            try simp only [Act.put, List.setIfInBounds_toArray, List.set_cons_zero, List.set_cons_succ]
                            refine regTake (i := 2) (v := ?_) rfl (by kernel_rfl) (by kernel_rfl) (by kernel_rfl) (fun _ _ _ h => h) (by rfl) ?_ (by assumption) ?_
                            rotate_left
                            · intro w_ hSw
                              (try dsimp only at hSw)
                              go_simp
                              (try with_reducible rfl)
                            try simp only [Act.put, List.setIfInBounds_toArray, List.set_cons_zero, List.set_cons_succ]
                            refine regTake (i := 3) (v := ?_) rfl (by kernel_rfl) (by kernel_rfl) (by kernel_rfl) (fun _ _ _ h => h) (by rfl) ?_ (by assumption) ?_
                            rotate_left
                            · intro w_ hSw
                              (try dsimp only at hSw)
                              go_simp
                              (try with_reducible rfl)
                            try simp only [Act.put, List.setIfInBounds_toArray, List.set_cons_zero, List.set_cons_succ]
                            refine regTake (i := 4) (v := ?_) rfl (by kernel_rfl) (by kernel_rfl) (by kernel_rfl) (fun _ _ _ h => h) (by rfl) ?_ (by assumption) ?_
                            rotate_left
                            · intro w_ hSw
                              (try dsimp only at hSw)
                              go_simp
                              (try with_reducible rfl)
                            try simp only [Act.put, List.setIfInBounds_toArray, List.set_cons_zero, List.set_cons_succ]
                            refine regTake (i := 5) (v := ?_) rfl (by kernel_rfl) (by kernel_rfl) (by kernel_rfl) (fun _ _ _ h => h) (by rfl) ?_ (by assumption) ?_
                            rotate_left
                            · intro w_ hSw
                              (try dsimp only at hSw)
                              go_simp
                              (try with_reducible rfl)
                            try simp only [Act.put, List.setIfInBounds_toArray, List.set_cons_zero, List.set_cons_succ]
                            refine regTake (i := 6) (v := ?_) rfl (by kernel_rfl) (by kernel_rfl) (by kernel_rfl) (fun _ _ _ h => h) (by rfl) ?_ (by assumption) ?_
                            rotate_left
                            · intro w_ hSw
                              (try dsimp only at hSw)
                              go_simp
                              (try with_reducible rfl)
                            try simp only [Act.put, List.setIfInBounds_toArray, List.set_cons_zero, List.set_cons_succ]
                            refine regTake (i := 7) (v := ?_) rfl (by kernel_rfl) (by kernel_rfl) (by kernel_rfl) (fun _ _ _ h => h) (by rfl) ?_ (by assumption) ?_
                            rotate_left
                            · intro w_ hSw
                              (try dsimp only at hSw)
                              go_simp
                              (try with_reducible rfl)
                            try simp only [Act.put, List.setIfInBounds_toArray, List.set_cons_zero, List.set_cons_succ]
                            refine regTake (i := 8) (v := ?_) rfl (by kernel_rfl) (by kernel_rfl) (by kernel_rfl) (fun _ _ _ h => h) (by rfl) ?_ (by assumption) ?_
                            rotate_left
                            · intro w_ hSw
                              (try dsimp only at hSw)
                              go_simp
                              (try with_reducible rfl)
                            try simp only [Act.put, List.setIfInBounds_toArray, List.set_cons_zero, List.set_cons_succ]
                            refine regTake (i := 9) (v := ?_) rfl (by kernel_rfl) (by kernel_rfl) (by kernel_rfl) (fun _ _ _ h => h) (by rfl) ?_ (by assumption) ?_
                            rotate_left
                            · intro w_ hSw
                              (try dsimp only at hSw)
                              go_simp
                              (try with_reducible rfl)
                            try simp only [Act.put, List.setIfInBounds_toArray, List.set_cons_zero, List.set_cons_succ]
                            refine regTake (i := 10) (v := ?_) rfl (by kernel_rfl) (by kernel_rfl) (by kernel_rfl) (fun _ _ _ h => h) (by rfl) ?_ (by assumption) ?_
                            rotate_left
                            · intro w_ hSw
                              (try dsimp only at hSw)
                              go_simp
                              (try with_reducible rfl)
                            try simp only [Act.put, List.setIfInBounds_toArray, List.set_cons_zero, List.set_cons_succ]
                            refine regTake (i := 11) (v := ?_) rfl (by kernel_rfl) (by kernel_rfl) (by kernel_rfl) (fun _ _ _ h => h) (by rfl) ?_ (by assumption) ?_
                            rotate_left
                            · intro w_ hSw
                              (try dsimp only at hSw)
                              go_simp
                              (try with_reducible rfl)
                            try simp only [Act.put, List.setIfInBounds_toArray, List.set_cons_zero, List.set_cons_succ]
                            refine regTake (i := 12) (v := ?_) rfl (by kernel_rfl) (by kernel_rfl) (by kernel_rfl) (fun _ _ _ h => h) (by rfl) ?_ (by assumption) ?_
                            rotate_left
                            · intro w_ hSw
                              (try dsimp only at hSw)
                              go_simp
                              (try with_reducible rfl)
                            try simp only [Act.put, List.setIfInBounds_toArray, List.set_cons_zero, List.set_cons_succ]
                            refine regTake (i := 13) (v := ?_) rfl (by kernel_rfl) (by kernel_rfl) (by kernel_rfl) (fun _ _ _ h => h) (by rfl) ?_ (by assumption) ?_
                            rotate_left
                            · intro w_ hSw
                              (try dsimp only at hSw)
                              go_simp
                              (try with_reducible rfl)
                            try simp only [Act.put, List.setIfInBounds_toArray, List.set_cons_zero, List.set_cons_succ]
                            refine regTake (i := 14) (v := ?_) rfl (by kernel_rfl) (by kernel_rfl) (by kernel_rfl) (fun _ _ _ h => h) (by rfl) ?_ (by assumption) ?_
                            rotate_left
                            · intro w_ hSw
                              (try dsimp only at hSw)
                              go_simp
                              (try with_reducible rfl)
                            try simp only [Act.put, List.setIfInBounds_toArray, List.set_cons_zero, List.set_cons_succ]
                            refine regCall (i := 15) (by kernel_rfl) rfl (by rfl) (fun K hK => ?_)
                            go_simp
                            (go_at_call 11; refine (FindFunc_spec z0 cs sk [.slice A0 z0.length c0, .slice (some ⟨bc, offc, none⟩) cs.length c1] _ hf9 (B := w.heap.size) HB1.out.size (by rw [FProgram.c_eq]; exact RdVs.cons (HC0.out.below HB1.out (Nat.le_refl _)) (RdVs.cons (HC1.out.below HB1.out (Nat.le_refl _)) (RdVs.nil _ _)))).mono ?_; rw [HFX.out]; rintro e w2 ⟨rfl, hb2⟩; have HB2 := Lib.hid (HB1.out.trans (hb2.mono HB1.out.size)); have B2 := Lib.hid (B1.out.below hb2 (Nat.le_refl _)); have C2 := Lib.hid (C1.out.below hb2 (Nat.le_refl _)); clear hb2)
                            refine hK.out _ _ ?_ (fun hHeld => ?_)
                            · (try dsimp only)
                              (first | exact ⟨b00, b01, cb3, k_0, k_2⟩ | exact ⟨B2.out.cell 0, B2.out.cell 1, C2.out.cell 3, Hk_0.out _ HB2.out, Hk_2.out _ HB2.out⟩)
                            clear hK K
                            try simp only [Act.put, List.setIfInBounds_toArray, List.set_cons_zero, List.set_cons_succ]
                            refine regTake (i := 16) (v := ?_) rfl (by kernel_rfl) (by kernel_rfl) (by kernel_rfl) (fun _ _ _ h => h) (by rfl) ?_ (by assumption) ?_
                            rotate_left
                            · intro w_ hSw
                              (try dsimp only at hSw)
                              go_simp
                              (try with_reducible rfl)
                            try simp only [Act.put, List.setIfInBounds_toArray, List.set_cons_zero, List.set_cons_succ]
                            refine wpAnyH_done (by kernel_rfl) ?_ _
                            clear b00 b01 b0l cb3
                            have b00 := B2.out.cell 0
                            have b0l := B2.out.lt
                            cases hfo : fo FFunc.nm z0 sk.toList with
                            | none =>
                              have hv : v = -1 := by rw [← HFX.out, fidx_fo, hfo]
                              subst hv
                              have HG := Lib.hid (HD.out (by rw [HAM.out, mtB_noneS hfo]))
                              clear hfo
                              go_wp2_with fail
                              go_ret
                              exact ⟨ret_bool HG.out, HB2.out⟩
                            | some i =>
                              have hv : v = (i : Int) := by rw [← HFX.out, fidx_fo, hfo]
                              subst hv
                              obtain ⟨f, hfi, hil⟩ := fo_some hfo
                              have hat := HAM.out
                              rw [mtB_someS hfo hfi] at hat
                              have hfw3 := FFunc.wts_at z0 f (List.mem_of_getElem? hfi)
                              have hfk4 := OK0.out f (List.mem_of_getElem? hfi)
                              obtain ⟨bf, offf, rfl, hblbf, hcc⟩ := RdC.at_ FFunc.len HC0.out hfi
                              clear hfi hfo
                              obtain ⟨y0, y1, y2, y3, y4, y5⟩ := f
                              have hfw4 : FFunc.wt ⟨y0, y1, y2, y3, y4, y5⟩ ≤ 1000000000 := by omega
                              rw [FFunc.c_eq] at hcc
                              obtain ⟨u0, e0, q0⟩ := hcc 0 _ rfl
                              obtain rfl := q0.val
                              have Hf_0 := Lib.hid (fun W (hb : Below w.heap.size w W) => (hb.cell (p := ⟨bf, offf + i * 6, none⟩) hblbf).trans (show w.cell? ⟨bf, offf + i * 6, none⟩ = some (.string y0) from by simpa using e0))
                              have f_0 := Hf_0.out _ HB2.out
                              obtain ⟨u1, e1, q1⟩ := hcc 1 _ rfl
                              obtain ⟨Y1, x1, rfl⟩ := q1.form
                              have Hf_1 := Lib.hid (fun W (hb : Below w.heap.size w W) => (hb.cell (p := ⟨bf, offf + i * 6 + 1, none⟩) hblbf).trans (show w.cell? ⟨bf, offf + i * 6 + 1, none⟩ = some (.slice Y1 y1.length x1) from by simpa using e1))
                              have f_1 := Hf_1.out _ HB2.out
                              obtain ⟨u2, e2, q2⟩ := hcc 2 _ rfl
                              obtain ⟨Y2, x2, rfl⟩ := q2.form
                              have Hf_2 := Lib.hid (fun W (hb : Below w.heap.size w W) => (hb.cell (p := ⟨bf, offf + i * 6 + 2, none⟩) hblbf).trans (show w.cell? ⟨bf, offf + i * 6 + 2, none⟩ = some (.slice Y2 y2.length x2) from by simpa using e2))
                              have f_2 := Hf_2.out _ HB2.out
                              obtain ⟨u3, e3, q3⟩ := hcc 3 _ rfl
                              obtain ⟨Y3, x3, rfl⟩ := q3.form
                              have Hf_3 := Lib.hid (fun W (hb : Below w.heap.size w W) => (hb.cell (p := ⟨bf, offf + i * 6 + 3, none⟩) hblbf).trans (show w.cell? ⟨bf, offf + i * 6 + 3, none⟩ = some (.slice Y3 y3.length x3) from by simpa using e3))
                              have f_3 := Hf_3.out _ HB2.out
                              obtain ⟨u4, e4, q4⟩ := hcc 4 _ rfl
                              obtain rfl := q4.val
                              have Hf_4 := Lib.hid (fun W (hb : Below w.heap.size w W) => (hb.cell (p := ⟨bf, offf + i * 6 + 4, none⟩) hblbf).trans (show w.cell? ⟨bf, offf + i * 6 + 4, none⟩ = some (.bool y4) from by simpa using e4))
                              have f_4 := Hf_4.out _ HB2.out
                              obtain ⟨u5, e5, q5⟩ := hcc 5 _ rfl
                              obtain ⟨Y5, x5, rfl⟩ := q5.form
                              have Hf_5 := Lib.hid (fun W (hb : Below w.heap.size w W) => (hb.cell (p := ⟨bf, offf + i * 6 + 5, none⟩) hblbf).trans (show w.cell? ⟨bf, offf + i * 6 + 5, none⟩ = some (.slice Y5 y5.length x5) from by simpa using e5))
                              have f_5 := Hf_5.out _ HB2.out
                              have Qf_1 := Lib.hid q1
                              have Qf_2 := Lib.hid q2
                              have Qf_3 := Lib.hid q3
                              have Qf_5 := Lib.hid q5
                              clear hcc e0 q0 e1 q1 e2 q2 e3 q3 e4 q4 e5 q5
                              rw [show FFunc.nm ⟨y0, y1, y2, y3, y4, y5⟩ = y0 from rfl, show FFunc.usn ⟨y0, y1, y2, y3, y4, y5⟩ = y2.length from rfl] at hat
                              rw [FFunc.wt_eq] at hfw3
                              have hl2b : y2.length ≤ 9223372036854775807 := by omega
                              have hi0 : ¬ (i : Int) < 0 := by omega
                              have hid0 : decide ((i : Int) < 0) = false := decide_eq_false hi0
                              cases hil2 : isFl y0 with
                              | true =>
                                have HIL := Lib.hid hil2
                                have HG := Lib.hid (HD.out (by rw [hat, hil2]; rfl))
                                clear hat HAM
                                go_wp2_with (first | (go_at_call 16; refine (Top_spec y0 y1 y2 y3 y4 y5 [.string y0, .slice Y1 y1.length x1, .slice Y2 y2.length x2, .slice Y3 y3.length x3, .bool y4, .slice Y5 y5.length x5] _ hfw4 hfk4 (B := w.heap.size) HB2.out.size (by rw [FFunc.c_eq]; exact RdVs.cons (by unfold RdC; rfl) (RdVs.cons (Qf_1.out.below HB2.out (Nat.le_refl _)) (RdVs.cons (Qf_2.out.below HB2.out (Nat.le_refl _)) (RdVs.cons (Qf_3.out.below HB2.out (Nat.le_refl _)) (RdVs.cons (by unfold RdC; rfl) (RdVs.cons (Qf_5.out.below HB2.out (Nat.le_refl _)) (RdVs.nil _ _)))))))).mono ?_; rw [HIL.out]; rintro e w3 ⟨rfl, hb3⟩; have HB3 := Lib.hid (HB2.out.trans (hb3.mono HB2.out.size)); have B3 := Lib.hid (B2.out.below hb3 (Nat.le_refl _)); have C3 := Lib.hid (C2.out.below hb3 (Nat.le_refl _)); have b30 := B3.out.cell 0; have b3l := B3.out.lt; have f32 := Hf_2.out _ HB3.out))
                                go_ret
                                exact ⟨ret_bool HG.out, HB3.out⟩
                              | false =>
                                have HIL := Lib.hid hil2
                                by_cases hz : y2.length = 0
                                case neg =>
                                  have HG := Lib.hid (HD.out (by rw [hat, hil2, beq_false_of_ne hz]; rfl))
                                  have hz3 : (0 : Int) < (y2.length : Int) := by omega
                                  clear hat HAM
                                  go_wp2_with (first | (go_at_call 16; refine (Top_spec y0 y1 y2 y3 y4 y5 [.string y0, .slice Y1 y1.length x1, .slice Y2 y2.length x2, .slice Y3 y3.length x3, .bool y4, .slice Y5 y5.length x5] _ hfw4 hfk4 (B := w.heap.size) HB2.out.size (by rw [FFunc.c_eq]; exact RdVs.cons (by unfold RdC; rfl) (RdVs.cons (Qf_1.out.below HB2.out (Nat.le_refl _)) (RdVs.cons (Qf_2.out.below HB2.out (Nat.le_refl _)) (RdVs.cons (Qf_3.out.below HB2.out (Nat.le_refl _)) (RdVs.cons (by unfold RdC; rfl) (RdVs.cons (Qf_5.out.below HB2.out (Nat.le_refl _)) (RdVs.nil _ _)))))))).mono ?_; rw [HIL.out]; rintro e w3 ⟨rfl, hb3⟩; have HB3 := Lib.hid (HB2.out.trans (hb3.mono HB2.out.size)); have B3 := Lib.hid (B2.out.below hb3 (Nat.le_refl _)); have C3 := Lib.hid (C2.out.below hb3 (Nat.le_refl _)); have b30 := B3.out.cell 0; have b3l := B3.out.lt; have f32 := Hf_2.out _ HB3.out))
                                  go_ret
                                  exact ⟨ret_bool HG.out, HB3.out⟩
                                have HFA2 := Lib.hid (on_succ HFA.out (show mtAt z0 n3 q = true from by rw [hat, hil2, hz]; rfl))
                                have hz3 : ¬ (0 : Int) < (y2.length : Int) := by omega
                                clear hat hz HAM
                                go_wp2_with (first | (go_at_call 16; refine (Top_spec y0 y1 y2 y3 y4 y5 [.string y0, .slice Y1 y1.length x1, .slice Y2 y2.length x2, .slice Y3 y3.length x3, .bool y4, .slice Y5 y5.length x5] _ hfw4 hfk4 (B := w.heap.size) HB2.out.size (by rw [FFunc.c_eq]; exact RdVs.cons (by unfold RdC; rfl) (RdVs.cons (Qf_1.out.below HB2.out (Nat.le_refl _)) (RdVs.cons (Qf_2.out.below HB2.out (Nat.le_refl _)) (RdVs.cons (Qf_3.out.below HB2.out (Nat.le_refl _)) (RdVs.cons (by unfold RdC; rfl) (RdVs.cons (Qf_5.out.below HB2.out (Nat.le_refl _)) (RdVs.nil _ _)))))))).mono ?_; rw [HIL.out]; rintro e w3 ⟨rfl, hb3⟩; have HB3 := Lib.hid (HB2.out.trans (hb3.mono HB2.out.size)); have B3 := Lib.hid (B2.out.below hb3 (Nat.le_refl _)); have C3 := Lib.hid (C2.out.below hb3 (Nat.le_refl _)); have b30 := B3.out.cell 0; have b3l := B3.out.lt; have f32 := Hf_2.out _ HB3.out))
                                go_roundw
                                case rel => exact ⟨q + 1, by omega, by go_num, HFA2.out, B3.out, C3.out, HB3.out⟩
                                case measure => simp [intOf]; omega
                          · obtain rfl : q = n3.length := by omega
                            have HAL2 := Lib.hid (on_succ HAL.out (show clAt z0 cs k = true from by rw [HAT2.out, allK_t hfa]))
                            have B1 := Lib.hid b0
                            have HB1 := Lib.hid hb0
                            clear hfa b0 cb hb0
                            go_wp2_with fail
                            go_roundw
                            case rel => exact ⟨k + 1, by omega, by go_num, HAL2.out, B1.out, HB1.out⟩
                            case measure => simp [intOf]; omega
                · obtain rfl : k = cs.length := by omega
                  have HG := Lib.hid (show true = prF z0 cs from by rw [HP2.out, allK_t hall])
                  have HB1 := Lib.hid hb0
                  clear hall b0 hb0
                  go_wp2_with fail
                  go_ret
                  exact ⟨ret_bool HG.out, HB1.out⟩
end Go.Proofs.YtdmbhmhfjappcaaGreatDoor
