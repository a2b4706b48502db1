/-
  l6Get of the reference. Conditions: none.
-/
import Derived.Test.YtgbeenieacnanaaDoorIxA
import Derived.Test.YtgbeenieacnanaaDoorCbS
namespace Go.Proofs.YtgbeenieacnanaaDoor
open Go.ChangeShapes Go.WideShapes Go.ChangeAt Go.RowKit Go.Deep Go.Joins
open Go.ChangeMaps (open_string shut_string)
set_option linter.unusedVariables false
set_option linter.unusedSimpArgs false
set_option maxRecDepth 100000
theorem rd_zero (w : World) (B : Nat) : RdVs w B (FValue.c zeroV) [.int .i64 0, .int .i64 0, .string ⟨#[]⟩, .int .i64 0, .slice none 0 0] := by
  unfold zeroV
  rw [FValue.c_eq]
  exact RdVs.cons (by unfold RdC; rfl) (RdVs.cons (by unfold RdC; rfl) (RdVs.cons (by unfold RdC; rfl) (RdVs.cons (by unfold RdC; rfl) (RdVs.cons (by unfold RdC; exact ⟨none, 0, rfl, Nat.le_refl _, Nat.zero_le _, rfl, fun h => absurd h (Nat.lt_irrefl _)⟩) (RdVs.nil _ _)))))
set_option maxHeartbeats 2000000 in
theorem get_spec (z1 : Int) (z2 : ByteArray) (z3 : Int) (l : List FEntry) (hw : l.length + FEntry.wts l ≤ 1000000000) (a : FKey) (us : List Value) (w : World) (B : Nat) (hB0 : B ≤ w.heap.size) (hr : RdVs w B (FValue.c ⟨4, z1, z2, z3, l⟩) us) :
    Calls Tryd.prog 19 #[.agg us.toArray, .agg #[.bool a.a0, .int .i64 a.a1, .string a.a2]] w fun e w' => ∃ us' b, e = .returned (.tuple #[.agg us'.toArray, .bool b]) ∧ RdVs w' w.heap.size (gtF a l).c us' ∧ Below w.heap.size w w' := by
  have HF := Lib.hid (fun W (hb : Below w.heap.size w W) => find_spec z1 z2 z3 l (by omega) a us W w.heap.size hb.size (hr.on hb hB0 hB0))
  obtain ⟨a0, a1, a2⟩ := a
  dsimp only at HF ⊢
  rw [FValue.c_eq] at hr
  obtain ⟨us0, rfl, hr_0⟩ := hr.unv
  obtain ⟨us1, rfl, hr_1⟩ := hr_0.unv
  obtain ⟨us2, rfl, hr_2⟩ := hr_1.unv
  obtain ⟨us3, rfl, hr_3⟩ := hr_2.unv
  obtain ⟨A, c, us4, rfl, r4, hr_4⟩ := hr_3.uns
  obtain rfl := hr_4.un0
  have HC := Lib.hid (r4.up hB0)
  clear r4 hr hr_0 hr_1 hr_2 hr_3 hr_4
  have hn : l.length ≤ 9223372036854775807 := by omega
  have HB0 := Lib.hid ((((Below.refl w.heap.size w).alloc (Nat.le_refl _) (.cells #[.int .i64 4, .int .i64 z1, .string z2, .int .i64 z3, .slice A l.length c] 28)).alloc (by simp) (.cells #[.bool a0, .int .i64 a1, .string a2] 44)).alloc (by simp; omega) (.cells #[.int .i64 0, .int .i64 0, .string ⟨#[]⟩, .int .i64 0, .slice none 0 0] 28))
  have b0 := Lib.hid (((Blk.new w 28 #[.int .i64 4, .int .i64 z1, .string z2, .int .i64 z3, .slice A l.length c]).alloc (.cells #[.bool a0, .int .i64 a1, .string a2] 44)).alloc (.cells #[.int .i64 0, .int .i64 0, .string ⟨#[]⟩, .int .i64 0, .slice none 0 0] 28))
  have b2 := Lib.hid (Blk.new' ((w.alloc (.cells #[.int .i64 4, .int .i64 z1, .string z2, .int .i64 z3, .slice A l.length c] 28)).alloc (.cells #[.bool a0, .int .i64 a1, .string a2] 44)) 28 #[.int .i64 0, .int .i64 0, .string ⟨#[]⟩, .int .i64 0, .slice none 0 0] (w.heap.size + 2) (by simp))
  go_enter Tryd.func19, Tryd.ntmps19
  go_upto_region 2 with (go_at_call 43; refine (HF.out _ HB0.out).mono ?_; rintro e w1 ⟨rfl, hb1⟩)
  have HB1 := Lib.hid (HB0.out.trans (hb1.mono HB0.out.size))
  have B0 := Lib.hid (b0.out.below hb1 (Nat.le_refl _))
  have C2 := Lib.hid (b2.out.below hb1 (Nat.le_refl _))
  have C2l := C2.out.lt
  have C2f := fun i => C2.out.frozen i
  have C2_0 := C2.out.cell 0
  have C2_1 := C2.out.cell 1
  have C2_2 := C2.out.cell 2
  have C2_3 := C2.out.cell 3
  have C2_4 := C2.out.cell 4
  have B04 := B0.out.cell 4
  have B0l := B0.out.lt
  have s1 := hb1.size
  have e0 : ∀ (W : World) (o : Obj), (W.alloc o).heap.size = W.heap.size + 1 := fun W o => by simp
  simp only [e0] at s1
  clear b0 b2 HB0 hb1 HF
  rcases fkF_ge ⟨a0, a1, a2⟩ l 0 with hf | hf
  · have HG := Lib.hid (gtF_no l 0 hf)
    rw [hf]
    go_wp2_with fail
    rw [HG.out]
    refine bodyPost_ret (v := .tuple #[.agg #[.int .i64 0, .int .i64 0, .string ⟨#[]⟩, .int .i64 0, .slice none 0 0], .bool false]) (by simp [results, Tryd.results19, go_sem, C2_0, C2_1, C2_2, C2_3, C2_4, C2l, C2f]) rfl ⟨_, _, rfl, rd_zero _ _, ?_⟩
    repeat (refine Below.setCell ?_ (by (try simp) <;> omega) _)
    exact HB1.out
  · obtain ⟨k, hk⟩ : ∃ k : Nat, fkF ⟨a0, a1, a2⟩ 0 l = k := ⟨(fkF ⟨a0, a1, a2⟩ 0 l).toNat, by omega⟩
    obtain ⟨x, hx, hgx, _⟩ := gtF_yes l 0 k hk
    rw [Nat.sub_zero] at hx
    have hlt : k < l.length := (List.getElem?_eq_some_iff.1 hx).1
    obtain ⟨bc, offc, rfl, hblc, hcc⟩ := RdC.at_ FEntry.len HC.out hx
    clear hx hf
    obtain ⟨⟨y0, y1, y2⟩, ⟨y3, y4, y5, y6, y7⟩⟩ := x
    have hb0 := HB1.out
    rw [FEntry.c_eq] at hcc
    obtain ⟨u0, e0, q0⟩ := hcc 0 _ rfl
    obtain rfl := q0.val
    have g0 : w1.cell? ⟨bc, offc + k * 8, none⟩ = some (.bool y0) := (hb0.cell (p := ⟨bc, _, none⟩) hblc).trans (by simpa [Nat.add_assoc] using e0)
    obtain ⟨u1, e1, q1⟩ := hcc 1 _ rfl
    obtain rfl := q1.val
    have g1 : w1.cell? ⟨bc, offc + k * 8 + 1, none⟩ = some (.int .i64 y1) := (hb0.cell (p := ⟨bc, _, none⟩) hblc).trans (by simpa [Nat.add_assoc] using e1)
    obtain ⟨u2, e2, q2⟩ := hcc 2 _ rfl
    obtain rfl := q2.val
    have g2 : w1.cell? ⟨bc, offc + k * 8 + 2, none⟩ = some (.string y2) := (hb0.cell (p := ⟨bc, _, none⟩) hblc).trans (by simpa [Nat.add_assoc] using e2)
    obtain ⟨u3, e3, q3⟩ := hcc 3 _ rfl
    obtain rfl := q3.val
    have g3 : w1.cell? ⟨bc, offc + k * 8 + 3, none⟩ = some (.int .i64 y3) := (hb0.cell (p := ⟨bc, _, none⟩) hblc).trans (by simpa [Nat.add_assoc] using e3)
    obtain ⟨u4, e4, q4⟩ := hcc 4 _ rfl
    obtain rfl := q4.val
    have g4 : w1.cell? ⟨bc, offc + k * 8 + 3 + 1, none⟩ = some (.int .i64 y4) := (hb0.cell (p := ⟨bc, _, none⟩) hblc).trans (by simpa [Nat.add_assoc] using e4)
    obtain ⟨u5, e5, q5⟩ := hcc 5 _ rfl
    obtain rfl := q5.val
    have g5 : w1.cell? ⟨bc, offc + k * 8 + 3 + 2, none⟩ = some (.string y5) := (hb0.cell (p := ⟨bc, _, none⟩) hblc).trans (by simpa [Nat.add_assoc] using e5)
    obtain ⟨u6, e6, q6⟩ := hcc 6 _ rfl
    obtain rfl := q6.val
    have g6 : w1.cell? ⟨bc, offc + k * 8 + 3 + 3, none⟩ = some (.int .i64 y6) := (hb0.cell (p := ⟨bc, _, none⟩) hblc).trans (by simpa [Nat.add_assoc] using e6)
    obtain ⟨u7, e7, q7⟩ := hcc 7 _ rfl
    obtain ⟨A7, c7, rfl⟩ := q7.form
    have g7 : w1.cell? ⟨bc, offc + k * 8 + 3 + 4, none⟩ = some (.slice A7 y7.length c7) := (hb0.cell (p := ⟨bc, _, none⟩) hblc).trans (by simpa [Nat.add_assoc] using e7)
    have Q7 := Lib.hid q7
    clear hcc e0 q0 e1 q1 e2 q2 e3 q3 e4 q4 e5 q5 e6 q6 e7 q7
    have HG := Lib.hid (show gtF ⟨a0, a1, a2⟩ l = ⟨y3, y4, y5, y6, y7⟩ from hgx)
    rw [hk]
    clear hgx hb0 HC
    go_wp2_with fail
    rw [HG.out]
    refine bodyPost_ret (v := .tuple #[.agg #[.int .i64 y3, .int .i64 y4, .string y5, .int .i64 y6, .slice A7 y7.length c7], .bool true]) (by simp [results, Tryd.results19, go_sem, C2_0, C2_1, C2_2, C2_3, C2_4, C2l, C2f]) rfl ?_
    have HB2 : Below w.heap.size w (((((w1.setCell ⟨w.heap.size + 2, 0, none⟩ (.int .i64 y3)).setCell ⟨w.heap.size + 2, 1, none⟩ (.int .i64 y4)).setCell ⟨w.heap.size + 2, 2, none⟩ (.string y5)).setCell ⟨w.heap.size + 2, 3, none⟩ (.int .i64 y6)).setCell ⟨w.heap.size + 2, 4, none⟩ (.slice A7 y7.length c7)) := by
      repeat (refine Below.setCell ?_ (by (try simp) <;> omega) _)
      exact HB1.out
    exact ⟨_, _, rfl, (by rw [FValue.c_eq]; exact RdVs.cons (by unfold RdC; rfl) (RdVs.cons (by unfold RdC; rfl) (RdVs.cons (by unfold RdC; rfl) (RdVs.cons (by unfold RdC; rfl) (RdVs.cons (Q7.out.below HB2 (Nat.le_refl _)) (RdVs.nil _ _)))))), HB2⟩
end Go.Proofs.YtgbeenieacnanaaDoor
