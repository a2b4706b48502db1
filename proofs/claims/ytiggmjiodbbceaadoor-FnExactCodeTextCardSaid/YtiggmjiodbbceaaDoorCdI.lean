/-
  CodeText of the program. Conditions: the two tables.
-/
import Derived.Test.YtiggmjiodbbceaaDoorCdA
import Derived.Deep.RegionHeld3
namespace Go.Proofs.YtiggmjiodbbceaaDoor
open Go.ChangeShapes Go.WideShapes Go.ChangeAt Go.RowKit Go.Deep Go.Joins
open Go.ChangeMaps (open_string shut_string)
set_option linter.unusedVariables false
set_option linter.unusedSimpArgs false
set_option maxRecDepth 100000
set_option maxHeartbeats 4000000 in
theorem CodeText_impl (z0 : ByteArray) (z1 : List FParam) (z2 : List FParam) (z3 : List FStr) (z4 : Bool) (z5 : List FIns) (us : List Value) (w : World) (hw : FFunc.wt ⟨z0, z1, z2, z3, z4, z5⟩ ≤ 1048576) (ok : FFunc.ok ⟨z0, z1, z2, z3, z4, z5⟩) (hA : TabA w) (hP : TabP w) {B : Nat} (hB0 : B ≤ w.heap.size) (hr : RdVs w B (FFunc.c ⟨z0, z1, z2, z3, z4, z5⟩) us) :
    Calls Tryd.prog 25 #[.agg us.toArray] w fun e w' => e = .returned (.string (ctS z5 z5.length)) ∧ Below w.heap.size w w' := by
  have TA := Lib.hid hA
  have TP := Lib.hid hP
  clear hA hP
  rw [FFunc.ok_eq] at ok
  obtain ⟨ok0, ok1, ok2, ok3, ok5⟩ := ok
  have hwe := FFunc.wt_eq z0 z1 z2 z3 z4 z5
  have hl5 : z5.length ≤ 1048576 := by omega
  have LEN := Lib.hid (ctB_len' z5 ok5 (by omega))
  have OK5 := Lib.hid (FIns.oks_mem z5 ok5)
  have WT5 := Lib.hid (fun (x : FIns) (hx : x ∈ z5) => (show x.wt ≤ 1048576 from by have := FIns.wts_at z5 x hx; omega))
  clear hwe hw ok0 ok1 ok2 ok3 ok5
  rw [FFunc.c_eq] at hr
  obtain ⟨us0, rfl, hr_0⟩ := hr.unv
  obtain ⟨A1, c1, us1, rfl, r1, hr_1⟩ := hr_0.uns
  obtain ⟨A2, c2, us2, rfl, r2, hr_2⟩ := hr_1.uns
  obtain ⟨A3, c3, us3, rfl, r3, hr_3⟩ := hr_2.uns
  obtain ⟨us4, rfl, hr_4⟩ := hr_3.unv
  obtain ⟨A5, c5, us5, rfl, r5, hr_5⟩ := hr_4.uns
  obtain rfl := hr_5.un0
  have HC5 := Lib.hid (r5.up hB0)
  clear hr hr_0 hr_1 hr_2 hr_3 hr_4 hr_5 r1 r2 r3 r5 hB0
  have hba := Below.alloc (Below.refl w.heap.size w) (Nat.le_refl _) (.cells #[.string z0, .slice A1 z1.length c1, .slice A2 z2.length c2, .slice A3 z3.length c3, .bool z4, .slice A5 z5.length c5] 48)
  have hfr : Bld (w.heap.size + 1) [] ((w.alloc (.cells #[.string z0, .slice A1 z1.length c1, .slice A2 z2.length c2, .slice A3 z3.length c3, .bool z4, .slice A5 z5.length c5] 48)).alloc (.cells #[.pointer none, .slice none 0 0] 70)) := by
    have := Bld.fresh (w.alloc (.cells #[.string z0, .slice A1 z1.length c1, .slice A2 z2.length c2, .slice A3 z3.length c3, .bool z4, .slice A5 z5.length c5] 48))
    simpa using this
  go_enter Tryd.func25, Tryd.ntmps25
  go_wp2_with fail
  go_loopw [9] (fun i wr => ∃ k : Nat, k ≤ z5.length ∧ i = .int .i64 k ∧ Bld (w.heap.size + 1) (ctB z5 k) wr ∧ Below w.heap.size w wr) (fun i _ => z5.length - (intOf i).toNat)
  case atStart => exact ⟨0, Nat.zero_le _, rfl, hfr, hba.alloc (by simp) _⟩
  case round =>
    clear hba hfr
    obtain ⟨k, hk, rfl, hbl, hb⟩ := hrel
    have hbs := hb.size
    have hlen := LEN.out k hk
    have BL := Lib.hid hbl
    have hbl2 := hbl.lt
    have hkm : k < maxLen := by unfold maxLen; omega
    clear hbl
    by_cases hlt : k < z5.length
    · obtain ⟨x, hx⟩ : ∃ x, z5[k]? = some x := ⟨_, List.getElem?_eq_getElem hlt⟩
      obtain ⟨bc, offc, rfl, hblc, hcc⟩ := RdC.at_ FIns.len HC5.out hx
      have hxm := List.mem_of_getElem? hx
      have hxo := OK5.out x hxm
      have hxw := WT5.out x hxm
      clear hxm
      have HB1 := Lib.hid (ctB_succ hx)
      have HS1 := Lib.hid (ctS_succ hx)
      clear hx
      obtain ⟨y0, y1, y2, y3, y4⟩ := x
      rw [FIns.ok_eq] at hxo
      rw [FIns.wt_eq] at hxw
      obtain ⟨_, _, _, ga0, ga1, gb0, gb1⟩ := hxo
      rw [FIns.c_eq] at hcc
      obtain ⟨u0, e0, q0⟩ := hcc 0 _ rfl
      obtain rfl := q0.val
      have c_0 : wr.cell? ⟨bc, offc + k * 5, none⟩ = some (.int .i64 y0) := (hb.cell (p := ⟨bc, _, none⟩) hblc).trans (by simpa using e0)
      clear e0 q0
      obtain ⟨u1, e1, q1⟩ := hcc 1 _ rfl
      obtain rfl := q1.val
      have c_1 : wr.cell? ⟨bc, offc + k * 5 + 1, none⟩ = some (.int .i64 y1) := (hb.cell (p := ⟨bc, _, none⟩) hblc).trans (by simpa using e1)
      clear e1 q1
      obtain ⟨u2, e2, q2⟩ := hcc 2 _ rfl
      obtain rfl := q2.val
      have c_2 : wr.cell? ⟨bc, offc + k * 5 + 2, none⟩ = some (.int .i64 y2) := (hb.cell (p := ⟨bc, _, none⟩) hblc).trans (by simpa using e2)
      clear e2 q2
      obtain ⟨u3, e3, q3⟩ := hcc 3 _ rfl
      obtain rfl := q3.val
      have c_3 : wr.cell? ⟨bc, offc + k * 5 + 3, none⟩ = some (.string y3) := (hb.cell (p := ⟨bc, _, none⟩) hblc).trans (by simpa using e3)
      clear e3 q3
      obtain ⟨u4, e4, q4⟩ := hcc 4 _ rfl
      obtain rfl := q4.val
      have c_4 : wr.cell? ⟨bc, offc + k * 5 + 4, none⟩ = some (.string y4) := (hb.cell (p := ⟨bc, _, none⟩) hblc).trans (by simpa using e4)
      clear e4 q4
      clear hcc
      have h3 : y3.size ≤ 1000000000 := by omega
      have h4 : y4.size ≤ 1000000000 := by omega
      have s1 := itoF_size (k : Int) (by omega) (by omega)
      have s2 := insLn_size y0 y1 y2 y3 y4 ga0 ga1 gb0 gb1
      have s4 : (⟨#[32]⟩ : ByteArray).size = 1 := rfl
      have s5 : (⟨#[10]⟩ : ByteArray).size = 1 := rfl
      have FI := Lib.hid (fun (W : World) (h : Below w.heap.size w W) => Fmt_impl (k : Int) (by omega) (by omega) W (TP.out.below h))
      have LN := Lib.hid (fun (W : World) (h : Below w.heap.size w W) => Line_impl y0 y1 y2 y3 y4 ga0 ga1 gb0 gb1 h3 h4 W (TA.out.below h) (TP.out.below h))
      unfold ctP at HB1
      generalize itoF (k : Int) = fa at *
      simp only [] at HB1
      generalize insLn y0 y1 y2 y3 y4 = ln at *
      have s6 : (((fa ++ ⟨#[32]⟩) ++ ln) ++ (⟨#[10]⟩ : ByteArray)).size ≤ 100000000000 := by simp only [ByteArray.size_append]; omega
      have WS := Lib.hid (fun (W : World) (h : Bld (w.heap.size + 1) (ctB z5 k) W) => wsC (w.heap.size + 1) (ctB z5 k) (((fa ++ ⟨#[32]⟩) ++ ln) ++ ⟨#[10]⟩) W h (by omega))
      clear s6
      have g1 : ∀ W : World, (Op.stringOp .add fa (⟨#[32]⟩ : ByteArray)).run Tryd.prog W = .ok (.string (fa ++ ⟨#[32]⟩)) W := fun W => run_string_add_sum W _ _ (by omega)
      have g2 : ∀ W : World, (Op.stringOp .add (fa ++ (⟨#[32]⟩ : ByteArray)) ln).run Tryd.prog W = .ok (.string ((fa ++ ⟨#[32]⟩) ++ ln)) W := fun W => run_string_add_sum W _ _ (by simp only [ByteArray.size_append]; omega)
      have g3 : ∀ W : World, (Op.stringOp .add ((fa ++ (⟨#[32]⟩ : ByteArray)) ++ ln) (⟨#[10]⟩ : ByteArray)).run Tryd.prog W = .ok (.string (((fa ++ ⟨#[32]⟩) ++ ln) ++ ⟨#[10]⟩)) W := fun W => run_string_add_sum W _ _ (by simp only [ByteArray.size_append]; omega)
      go_upto_region 5 with fail
      have S0 : CdS w wr.heap.size (w.heap.size + 1) (ctB z5 k) y0 y1 y2 y3 y4 (wr.alloc (.cells #[.int .i64 y0, .int .i64 y1, .int .i64 y2, .string y3, .string y4] 28)) := ⟨Blk.new _ _ _, BL.out.below ((Below.refl _ _).alloc (Nat.le_refl _) _), hb.alloc (by omega) _, by omega, hbl2⟩
      generalize wr.alloc (.cells #[.int .i64 y0, .int .i64 y1, .int .i64 y2, .string y3, .string y4] 28) = wx at *
      have S := Lib.hid S0.drew
      clear S0
      go_region_held3 (fun w_ => w_.cell? ⟨wr.heap.size, 0, none⟩ = some (.int .i64 y0) ∧ w_.cell? ⟨wr.heap.size, 1, none⟩ = some (.int .i64 y1) ∧ w_.cell? ⟨wr.heap.size, 2, none⟩ = some (.int .i64 y2) ∧ w_.cell? ⟨wr.heap.size, 3, none⟩ = some (.string y3) ∧ w_.cell? ⟨wr.heap.size, 4, none⟩ = some (.string y4))
        (first | exact ⟨S.out.blk.cell 0, S.out.blk.cell 1, S.out.blk.cell 2, S.out.blk.cell 3, S.out.blk.cell 4⟩)
        ((first
          | (go_at_call 36; refine (FI.out _ S.out.bel).mono ?_; rintro e wa ⟨rfl, hb1⟩; replace S := Lib.hid (S.out.below hb1); clear hb1)
          | (go_at_call 12; refine (LN.out _ S.out.bel).mono ?_; rintro e wa ⟨rfl, hb1⟩; replace S := Lib.hid (S.out.below hb1); clear hb1)
          | (go_at_call 52; refine (WS.out _ S.out.bld).mono ?_; rintro e wa ⟨rfl, q1, q2, q3⟩; replace S := Lib.hid (S.out.wrote q1 q2 q3); clear q1 q2 q3)))
      all_goals
        go_wp2_with fail
        go_roundw
        case rel => exact ⟨k + 1, by omega, by go_num, by rw [HB1.out]; exact S.out.bld, S.out.bel⟩
        case measure => simp [intOf]; omega
    · obtain rfl : k = z5.length := by omega
      clear hlt
      go_wp2_with (go_at_call 53; refine (bsC _ _ _ BL.out).mono ?_; rintro e w' ⟨rfl, hb2⟩)
      go_ret
      exact ⟨rfl, hb.trans (hb2.mono (by omega))⟩
end Go.Proofs.YtiggmjiodbbceaaDoor
