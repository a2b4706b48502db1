/-
  CodeText of the reference. Conditions: none.
-/
import Derived.Test.YtiggmjiodbbceaaDoorCdA
import Derived.Deep.RegionHeld3
namespace Go.Proofs.YtiggmjiodbbceaaDoor
open Go.ChangeShapes Go.WideShapes Go.ChangeAt Go.RowKit Go.Deep Go.Joins
open Go.ChangeMaps (open_string shut_string)
set_option linter.unusedVariables false
set_option linter.unusedSimpArgs false
set_option maxRecDepth 100000
/-- What a round of the loop knows of a world: the box of the argument, an element of its code, the frame. -/
structure CeS (w : World) (c : Array Value) (bc o : Nat) (y0 y1 y2 : Int) (y3 y4 : ByteArray) (v : World) : Prop where
  box : Blk v w.heap.size 48 c
  e0 : v.cell? ⟨bc, o, none⟩ = some (.int .i64 y0)
  e1 : v.cell? ⟨bc, o + 1, none⟩ = some (.int .i64 y1)
  e2 : v.cell? ⟨bc, o + 2, none⟩ = some (.int .i64 y2)
  e3 : v.cell? ⟨bc, o + 3, none⟩ = some (.string y3)
  e4 : v.cell? ⟨bc, o + 4, none⟩ = some (.string y4)
  lt : bc < w.heap.size
  bel : Below w.heap.size w v
theorem CeS.below {w : World} {c : Array Value} {bc o : Nat} {y0 y1 y2 : Int} {y3 y4 : ByteArray} {v v' : World} (h : CeS w c bc o y0 y1 y2 y3 y4 v) (hb : Below v.heap.size v v') : CeS w c bc o y0 y1 y2 y3 y4 v' := by
  have hl := h.lt
  have hz := h.bel.size
  have k : ∀ i, v'.cell? ⟨bc, i, none⟩ = v.cell? ⟨bc, i, none⟩ := fun i => (bcell hb).1 _ _ (by omega)
  exact ⟨h.box.below hb (Nat.le_refl _), (k _).trans h.e0, (k _).trans h.e1, (k _).trans h.e2, (k _).trans h.e3, (k _).trans h.e4, hl, h.bel.trans (hb.mono hz)⟩
set_option maxHeartbeats 4000000 in
theorem CodeText_spec (z0 : ByteArray) (z1 : List FParam) (z2 : List FParam) (z3 : List FStr) (z4 : Bool) (z5 : List FIns) (us : List Value) (w : World) (hw : FFunc.wt ⟨z0, z1, z2, z3, z4, z5⟩ ≤ 1048576) (ok : FFunc.ok ⟨z0, z1, z2, z3, z4, z5⟩) {B : Nat} (hB0 : B ≤ w.heap.size) (hr : RdVs w B (FFunc.c ⟨z0, z1, z2, z3, z4, z5⟩) us) :
    Calls Tryd.prog 23 #[.agg us.toArray] w fun e w' => e = .returned (.string (ctS z5 z5.length)) ∧ Below w.heap.size w w' := by
  rw [FFunc.ok_eq] at ok
  obtain ⟨ok0, ok1, ok2, ok3, ok5⟩ := ok
  have hwe := FFunc.wt_eq z0 z1 z2 z3 z4 z5
  have hl5 : z5.length ≤ 1048576 := by omega
  have LEN := Lib.hid (ctB_len' z5 ok5 (by omega))
  have OK5 := Lib.hid (FIns.oks_mem z5 ok5)
  have WT5 := Lib.hid (fun (x : FIns) (hx : x ∈ z5) => (show x.wt ≤ 1048576 from by have := FIns.wts_at z5 x hx; omega))
  clear hwe hw ok0 ok1 ok2 ok3 ok5
  rw [FFunc.c_eq] at hr
  obtain ⟨us0, rfl, hr_0⟩ := hr.unv
  obtain ⟨A1, c1, us1, rfl, r1, hr_1⟩ := hr_0.uns
  obtain ⟨A2, c2, us2, rfl, r2, hr_2⟩ := hr_1.uns
  obtain ⟨A3, c3, us3, rfl, r3, hr_3⟩ := hr_2.uns
  obtain ⟨us4, rfl, hr_4⟩ := hr_3.unv
  obtain ⟨A5, c5, us5, rfl, r5, hr_5⟩ := hr_4.uns
  obtain rfl := hr_5.un0
  have HC5 := Lib.hid (r5.up hB0)
  clear hr hr_0 hr_1 hr_2 hr_3 hr_4 hr_5 r1 r2 r3 r5 hB0
  have hba := Below.alloc (Below.refl w.heap.size w) (Nat.le_refl _) (.cells #[.string z0, .slice A1 z1.length c1, .slice A2 z2.length c2, .slice A3 z3.length c3, .bool z4, .slice A5 z5.length c5] 48)
  go_enter Tryd.func23, Tryd.ntmps23
  go_wp2_with fail
  go_loopw [3, 4] (fun v i wr => ∃ k : Nat, k ≤ z5.length ∧ i = .int .i64 k ∧ v = .string (ctS z5 k) ∧ Blk wr w.heap.size 48 #[.string z0, .slice A1 z1.length c1, .slice A2 z2.length c2, .slice A3 z3.length c3, .bool z4, .slice A5 z5.length c5] ∧ Below w.heap.size w wr) (fun _ i _ => z5.length - (intOf i).toNat)
  case atStart => exact ⟨0, Nat.zero_le _, rfl, rfl, Blk.new _ _ _, hba⟩
  case round =>
    clear hba
    obtain ⟨k, hk, rfl, rfl, ba, hb⟩ := hrel
    have hbs := hb.size
    have hlen := LEN.out k hk
    rw [← ctS_size] at hlen
    have bal := ba.lt
    have ba_5 : wr.cell? ⟨w.heap.size, 5, none⟩ = some (.slice A5 z5.length c5) := ba.cell 5
    have hkm : k < maxLen := by unfold maxLen; omega
    by_cases hlt : k < z5.length
    · have hki : (k : Int) < (z5.length : Int) := by omega
      obtain ⟨x, hx⟩ : ∃ x, z5[k]? = some x := ⟨_, List.getElem?_eq_getElem hlt⟩
      obtain ⟨bc, offc, rfl, hblc, hcc⟩ := RdC.at_ FIns.len HC5.out hx
      have hxm := List.mem_of_getElem? hx
      have hxo := OK5.out x hxm
      have hxw := WT5.out x hxm
      clear hxm
      have HB1 := Lib.hid (ctB_succ hx)
      have HS1 := Lib.hid (ctS_succ hx)
      clear hx
      obtain ⟨y0, y1, y2, y3, y4⟩ := x
      rw [FIns.ok_eq] at hxo
      rw [FIns.wt_eq] at hxw
      obtain ⟨_, _, _, ga0, ga1, gb0, gb1⟩ := hxo
      rw [FIns.c_eq] at hcc
      obtain ⟨u0, e0, q0⟩ := hcc 0 _ rfl
      obtain rfl := q0.val
      have c_0 : wr.cell? ⟨bc, offc + k * 5, none⟩ = some (.int .i64 y0) := (hb.cell (p := ⟨bc, _, none⟩) hblc).trans (by simpa using e0)
      clear e0 q0
      obtain ⟨u1, e1, q1⟩ := hcc 1 _ rfl
      obtain rfl := q1.val
      have c_1 : wr.cell? ⟨bc, offc + k * 5 + 1, none⟩ = some (.int .i64 y1) := (hb.cell (p := ⟨bc, _, none⟩) hblc).trans (by simpa using e1)
      clear e1 q1
      obtain ⟨u2, e2, q2⟩ := hcc 2 _ rfl
      obtain rfl := q2.val
      have c_2 : wr.cell? ⟨bc, offc + k * 5 + 2, none⟩ = some (.int .i64 y2) := (hb.cell (p := ⟨bc, _, none⟩) hblc).trans (by simpa using e2)
      clear e2 q2
      obtain ⟨u3, e3, q3⟩ := hcc 3 _ rfl
      obtain rfl := q3.val
      have c_3 : wr.cell? ⟨bc, offc + k * 5 + 3, none⟩ = some (.string y3) := (hb.cell (p := ⟨bc, _, none⟩) hblc).trans (by simpa using e3)
      clear e3 q3
      obtain ⟨u4, e4, q4⟩ := hcc 4 _ rfl
      obtain rfl := q4.val
      have c_4 : wr.cell? ⟨bc, offc + k * 5 + 4, none⟩ = some (.string y4) := (hb.cell (p := ⟨bc, _, none⟩) hblc).trans (by simpa using e4)
      clear e4 q4
      clear hcc
      have h3 : y3.size ≤ 1000000000 := by omega
      have h4 : y4.size ≤ 1000000000 := by omega
      have s1 := itoF_size (k : Int) (by omega) (by omega)
      have s2 := insLn_size y0 y1 y2 y3 y4 ga0 ga1 gb0 gb1
      have s4 : (⟨#[32]⟩ : ByteArray).size = 1 := rfl
      have s5 : (⟨#[10]⟩ : ByteArray).size = 1 := rfl
      have FI := Lib.hid (fun (W : World) => Fmt_spec (k : Int) (by omega) (by omega) W)
      have LN := Lib.hid (fun (W : World) => Line_spec y0 y1 y2 y3 y4 ga0 ga1 gb0 gb1 h3 h4 W)
      unfold ctP at HS1
      generalize itoF (k : Int) = fa at *
      simp only [] at HS1
      generalize insLn y0 y1 y2 y3 y4 = ln at *
      generalize ctS z5 k = sk at *
      have g1 : ∀ W : World, (Op.stringOp .add sk fa).run Tryd.prog W = .ok (.string (sk ++ fa)) W := fun W => run_string_add_sum W _ _ (by omega)
      have g2 : ∀ W : World, (Op.stringOp .add (sk ++ fa) (⟨#[32]⟩ : ByteArray)).run Tryd.prog W = .ok (.string ((sk ++ fa) ++ ⟨#[32]⟩)) W := fun W => run_string_add_sum W _ _ (by simp only [ByteArray.size_append]; omega)
      have g3 : ∀ W : World, (Op.stringOp .add ((sk ++ fa) ++ (⟨#[32]⟩ : ByteArray)) ln).run Tryd.prog W = .ok (.string (((sk ++ fa) ++ ⟨#[32]⟩) ++ ln)) W := fun W => run_string_add_sum W _ _ (by simp only [ByteArray.size_append]; omega)
      have g4 : ∀ W : World, (Op.stringOp .add (((sk ++ fa) ++ (⟨#[32]⟩ : ByteArray)) ++ ln) (⟨#[10]⟩ : ByteArray)).run Tryd.prog W = .ok (.string ((((sk ++ fa) ++ ⟨#[32]⟩) ++ ln) ++ ⟨#[10]⟩)) W := fun W => run_string_add_sum W _ _ (by simp only [ByteArray.size_append]; omega)
      have S := Lib.hid (show CeS w #[.string z0, .slice A1 z1.length c1, .slice A2 z2.length c2, .slice A3 z3.length c3, .bool z4, .slice (some ⟨bc, offc, none⟩) z5.length c5] bc (offc + k * 5) y0 y1 y2 y3 y4 wr.drew from ⟨ba, c_0, c_1, c_2, c_3, c_4, hblc, hb.drew⟩)
      go_upto_region 5 with fail
      go_region_held3 (fun w_ => w_.cell? ⟨w.heap.size, 5, none⟩ = some (.slice (some ⟨bc, offc, none⟩) z5.length c5) ∧ w_.cell? ⟨bc, offc + k * 5, none⟩ = some (.int .i64 y0) ∧ w_.cell? ⟨bc, offc + k * 5 + 1, none⟩ = some (.int .i64 y1) ∧ w_.cell? ⟨bc, offc + k * 5 + 2, none⟩ = some (.int .i64 y2) ∧ w_.cell? ⟨bc, offc + k * 5 + 3, none⟩ = some (.string y3) ∧ w_.cell? ⟨bc, offc + k * 5 + 4, none⟩ = some (.string y4))
        (first | exact ⟨S.out.box.cell 5, S.out.e0, S.out.e1, S.out.e2, S.out.e3, S.out.e4⟩)
        ((first
          | (go_at_call 33; refine (FI.out _).mono ?_; rintro e wa ⟨rfl, hb1⟩; replace S := Lib.hid (S.out.below hb1); clear hb1)
          | (go_at_call 10; refine (LN.out _).mono ?_; rintro e wa ⟨rfl, hb1⟩; replace S := Lib.hid (S.out.below hb1); clear hb1)))
      all_goals
        go_wp2_with fail
        go_roundw
        case rel => exact ⟨k + 1, by omega, by go_num, by rw [HS1.out]; simp only [ByteArray.append_assoc], S.out.box, S.out.bel⟩
        case measure => simp [intOf]; omega
    · obtain rfl : k = z5.length := by omega
      clear hlt
      go_wp2_with fail
      go_ret
      exact ⟨rfl, hb⟩
end Go.Proofs.YtiggmjiodbbceaaDoor
