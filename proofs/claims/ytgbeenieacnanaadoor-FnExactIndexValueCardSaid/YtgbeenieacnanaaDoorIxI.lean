/-
  FindKey, GetKey of the program. Conditions: none.
-/
import Derived.Test.YtgbeenieacnanaaDoorIxA
import Derived.Test.YtgbeenieacnanaaDoorCbI
namespace Go.Proofs.YtgbeenieacnanaaDoor
open Go.ChangeShapes Go.WideShapes Go.ChangeAt Go.RowKit Go.Deep Go.Joins
open Go.ChangeMaps (open_string shut_string)
set_option linter.unusedVariables false
set_option linter.unusedSimpArgs false
set_option maxRecDepth 100000
set_option maxHeartbeats 1000000 in
theorem find_impl (z1 : Int) (z2 : ByteArray) (z3 : Int) (l : List FEntry) (hw : l.length ≤ 1000000000) (a : FKey) (us : List Value) (w : World) (B : Nat) (hB0 : B ≤ w.heap.size) (hr : RdVs w B (FValue.c ⟨4, z1, z2, z3, l⟩) us) :
    Calls Tryd.prog 47 #[.agg us.toArray, .agg #[.bool a.a0, .int .i64 a.a1, .string a.a2]] w fun e w' => e = .returned (.int .i64 (fkF a 0 l)) ∧ Below w.heap.size w w' := by
  obtain ⟨a0, a1, a2⟩ := a
  dsimp only
  rw [FValue.c_eq] at hr
  obtain ⟨us0, rfl, hr_0⟩ := hr.unv
  obtain ⟨us1, rfl, hr_1⟩ := hr_0.unv
  obtain ⟨us2, rfl, hr_2⟩ := hr_1.unv
  obtain ⟨us3, rfl, hr_3⟩ := hr_2.unv
  obtain ⟨A, c, us4, rfl, r4, hr_4⟩ := hr_3.uns
  obtain rfl := hr_4.un0
  have HC := Lib.hid (r4.up hB0)
  clear r4 hr hr_0 hr_1 hr_2 hr_3 hr_4
  have hn : l.length ≤ 9223372036854775807 := by omega
  have HB1 := Lib.hid (((Below.refl w.heap.size w).alloc (Nat.le_refl _) (.cells #[.int .i64 4, .int .i64 z1, .string z2, .int .i64 z3, .slice A l.length c] 28)).alloc (by simp) (.cells #[.bool a0, .int .i64 a1, .string a2] 44))
  go_enter Tryd.func47, Tryd.ntmps47
  go_wp2_with fail
  go_loopw [13] (fun i wr => ∃ k : Nat, k ≤ l.length ∧ i = .int .i64 k ∧ fkF ⟨a0, a1, a2⟩ 0 l = fkF ⟨a0, a1, a2⟩ k (l.drop k) ∧ Blk wr w.heap.size 28 #[.int .i64 4, .int .i64 z1, .string z2, .int .i64 z3, .slice A l.length c] ∧ Blk wr (w.heap.size + 1) 44 #[.bool a0, .int .i64 a1, .string a2] ∧ Below w.heap.size w wr) (fun i _ => l.length - (intOf i).toNat)
  case atStart => exact ⟨0, Nat.zero_le _, rfl, rfl, (Blk.new w _ _).alloc _, Blk.new' (w.alloc _) _ _ _ (by simp), HB1.out⟩
  case round =>
    clear HB1
    obtain ⟨k, hk, rfl, hm, b0, b1, hb0⟩ := hrel
    have b10 := b1.cell 0
    have b11 := b1.cell 1
    have b12 := b1.cell 2
    have b1l := b1.lt
    by_cases hlt : k < l.length
    · skip
      obtain ⟨x, hx⟩ : ∃ x, l[k]? = some x := ⟨_, List.getElem?_eq_getElem hlt⟩
      obtain ⟨bc, offc, rfl, hblc, hcc⟩ := RdC.at_ FEntry.len HC.out hx
      rw [drop_of hx, fkF] at hm
      clear hx
      obtain ⟨⟨y0, y1, y2⟩, ⟨y3, y4, y5, y6, y7⟩⟩ := x
      rw [FEntry.c_eq] at hcc
      obtain ⟨u0, e0, q0⟩ := hcc 0 _ rfl
      obtain rfl := q0.val
      have g0 : wr.cell? ⟨bc, offc + k * 8, none⟩ = some (.bool y0) := (hb0.cell (p := ⟨bc, _, none⟩) hblc).trans (by simpa using e0)
      obtain ⟨u1, e1, q1⟩ := hcc 1 _ rfl
      obtain rfl := q1.val
      have g1 : wr.cell? ⟨bc, offc + k * 8 + 1, none⟩ = some (.int .i64 y1) := (hb0.cell (p := ⟨bc, _, none⟩) hblc).trans (by simpa using e1)
      obtain ⟨u2, e2, q2⟩ := hcc 2 _ rfl
      obtain rfl := q2.val
      have g2 : wr.cell? ⟨bc, offc + k * 8 + 2, none⟩ = some (.string y2) := (hb0.cell (p := ⟨bc, _, none⟩) hblc).trans (by simpa using e2)
      obtain ⟨u3, e3, q3⟩ := hcc 3 _ rfl
      obtain rfl := q3.val
      have g3 : wr.cell? ⟨bc, offc + k * 8 + 3, none⟩ = some (.int .i64 y3) := (hb0.cell (p := ⟨bc, _, none⟩) hblc).trans (by simpa using e3)
      obtain ⟨u4, e4, q4⟩ := hcc 4 _ rfl
      obtain rfl := q4.val
      have g4 : wr.cell? ⟨bc, offc + k * 8 + 4, none⟩ = some (.int .i64 y4) := (hb0.cell (p := ⟨bc, _, none⟩) hblc).trans (by simpa using e4)
      obtain ⟨u5, e5, q5⟩ := hcc 5 _ rfl
      obtain rfl := q5.val
      have g5 : wr.cell? ⟨bc, offc + k * 8 + 5, none⟩ = some (.string y5) := (hb0.cell (p := ⟨bc, _, none⟩) hblc).trans (by simpa using e5)
      obtain ⟨u6, e6, q6⟩ := hcc 6 _ rfl
      obtain rfl := q6.val
      have g6 : wr.cell? ⟨bc, offc + k * 8 + 6, none⟩ = some (.int .i64 y6) := (hb0.cell (p := ⟨bc, _, none⟩) hblc).trans (by simpa using e6)
      obtain ⟨u7, e7, q7⟩ := hcc 7 _ rfl
      obtain ⟨A7, c7, rfl⟩ := q7.form
      have g7 : wr.cell? ⟨bc, offc + k * 8 + 7, none⟩ = some (.slice A7 y7.length c7) := (hb0.cell (p := ⟨bc, _, none⟩) hblc).trans (by simpa using e7)
      have Q7 := Lib.hid q7
      clear hcc e0 q0 e1 q1 e2 q2 e3 q3 e4 q4 e5 q5 e6 q6 e7 q7
      unfold FEntry.key at hm
      dsimp only at hm
      have HB1 := Lib.hid (hb0.alloc hb0.size (.cells #[.bool y0, .int .i64 y1, .string y2, .int .i64 y3, .int .i64 y4, .string y5, .int .i64 y6, .slice A7 y7.length c7] 73))
      have B0 := Lib.hid b0
      have B1 := Lib.hid b1
      clear hb0 b0 b1
      by_cases hq : (⟨y0, y1, y2⟩ : FKey) = ⟨a0, a1, a2⟩
      · injection hq with hq0 hq1 hq2
        subst hq0 hq1 hq2
        rw [if_pos (kEq_iff.2 rfl)] at hm
        have HM := Lib.hid hm
        clear hm
        go_wp2_with fail
        go_ret
        exact ⟨ret_int HM.out.symm, HB1.out⟩
      · rw [if_neg (fun h => hq (kEq_iff.1 h))] at hm
        have HM := Lib.hid hm
        clear hm
        by_cases q0 : y0 = a0
        · subst q0
          by_cases q1 : y1 = a1
          · subst q1
            have q2 : (y2.toList == a2.toList) = false := beq_str (fun h => hq (by rw [h]))
            clear hq
            go_wp2_with fail
            go_roundw
            case rel => exact ⟨k + 1, by omega, by go_num, HM.out, B0.out.alloc _, B1.out.alloc _, HB1.out⟩
            case measure => simp [intOf]; omega
          · have q1' : (y1 == a1) = false := beq_false_of_ne q1
            clear hq
            go_wp2_with fail
            go_roundw
            case rel => exact ⟨k + 1, by omega, by go_num, HM.out, B0.out.alloc _, B1.out.alloc _, HB1.out⟩
            case measure => simp [intOf]; omega
        · have q0' : (y0 == a0) = false := beq_false_of_ne q0
          clear hq
          go_wp2_with fail
          go_roundw
          case rel => exact ⟨k + 1, by omega, by go_num, HM.out, B0.out.alloc _, B1.out.alloc _, HB1.out⟩
          case measure => simp [intOf]; omega
    · obtain rfl : k = l.length := by omega
      have HM := Lib.hid (show (-1 : Int) = fkF ⟨a0, a1, a2⟩ 0 l from by rw [hm, List.drop_length, fkF])
      have HB1 := Lib.hid hb0
      clear hm b0 hb0
      go_wp2_with fail
      go_ret
      exact ⟨ret_int HM.out, HB1.out⟩
set_option maxHeartbeats 2000000 in
theorem get_impl (z1 : Int) (z2 : ByteArray) (z3 : Int) (l : List FEntry) (hw : l.length + FEntry.wts l ≤ 1000000000) (a : FKey) (us : List Value) (w : World) (B : Nat) (hB0 : B ≤ w.heap.size) (hr : RdVs w B (FValue.c ⟨4, z1, z2, z3, l⟩) us) :
    Calls Tryd.prog 26 #[.agg us.toArray, .agg #[.bool a.a0, .int .i64 a.a1, .string a.a2]] w fun e w' => ∃ us' b, e = .returned (.tuple #[.agg us'.toArray, .bool b]) ∧ OwnI w' w.heap.size w'.heap.size (gtF a l).c us' ∧ Below w.heap.size w w' := by
  have HF := Lib.hid (fun W (hb : Below w.heap.size w W) => find_impl z1 z2 z3 l (by omega) a us W w.heap.size hb.size (hr.on hb hB0 hB0))
  obtain ⟨a0, a1, a2⟩ := a
  dsimp only at HF ⊢
  rw [FValue.c_eq] at hr
  obtain ⟨us0, rfl, hr_0⟩ := hr.unv
  obtain ⟨us1, rfl, hr_1⟩ := hr_0.unv
  obtain ⟨us2, rfl, hr_2⟩ := hr_1.unv
  obtain ⟨us3, rfl, hr_3⟩ := hr_2.unv
  obtain ⟨A, c, us4, rfl, r4, hr_4⟩ := hr_3.uns
  obtain rfl := hr_4.un0
  have HC := Lib.hid (r4.up hB0)
  clear r4 hr hr_0 hr_1 hr_2 hr_3 hr_4
  have hn : l.length ≤ 9223372036854775807 := by omega
  have HB0 := Lib.hid ((((Below.refl w.heap.size w).alloc (Nat.le_refl _) (.cells #[.int .i64 4, .int .i64 z1, .string z2, .int .i64 z3, .slice A l.length c] 28)).alloc (by simp) (.cells #[.bool a0, .int .i64 a1, .string a2] 44)).alloc (by simp; omega) (.cells #[.int .i64 0, .int .i64 0, .string ⟨#[]⟩, .int .i64 0, .slice none 0 0] 28))
  have b0 := Lib.hid (((Blk.new w 28 #[.int .i64 4, .int .i64 z1, .string z2, .int .i64 z3, .slice A l.length c]).alloc (.cells #[.bool a0, .int .i64 a1, .string a2] 44)).alloc (.cells #[.int .i64 0, .int .i64 0, .string ⟨#[]⟩, .int .i64 0, .slice none 0 0] 28))
  have b2 := Lib.hid (Blk.new' ((w.alloc (.cells #[.int .i64 4, .int .i64 z1, .string z2, .int .i64 z3, .slice A l.length c] 28)).alloc (.cells #[.bool a0, .int .i64 a1, .string a2] 44)) 28 #[.int .i64 0, .int .i64 0, .string ⟨#[]⟩, .int .i64 0, .slice none 0 0] (w.heap.size + 2) (by simp))
  go_enter Tryd.func26, Tryd.ntmps26
  go_upto_region 2 with (go_at_call 47; refine (HF.out _ HB0.out).mono ?_; rintro e w1 ⟨rfl, hb1⟩)
  have HB1 := Lib.hid (HB0.out.trans (hb1.mono HB0.out.size))
  have B0 := Lib.hid (b0.out.below hb1 (Nat.le_refl _))
  have B2 := Lib.hid (b2.out.below hb1 (Nat.le_refl _))
  have B04 := B0.out.cell 4
  have B0l := B0.out.lt
  have s1 := hb1.size
  simp only [size_alK] at s1
  clear b0 b2 HB0 hb1 HF
  rcases fkF_ge ⟨a0, a1, a2⟩ l 0 with hf | hf
  · have HG := Lib.hid (gtF_no l 0 hf)
    rw [hf]
    go_wp2_with (go_at_call 24; refine (null_impl _).mono ?_; rintro e w2 ⟨rfl, hb2⟩; have C2 := Lib.hid (B2.out.below hb2 (Nat.le_refl _)); have C2l := C2.out.lt; have C2f := fun i => C2.out.frozen i; have C20 := C2.out.cell 0; have C21 := C2.out.cell 1; have C22 := C2.out.cell 2; have C23 := C2.out.cell 3; have C24 := C2.out.cell 4)
    rw [HG.out]
    refine bodyPost_ret (v := .tuple #[.agg #[.int .i64 0, .int .i64 0, .string ⟨#[]⟩, .int .i64 0, .slice none 0 0], .bool false]) (by simp [results, Tryd.results26, go_sem, C20, C21, C22, C23, C24, C2l, C2f]) rfl ⟨_, _, rfl, own_zero _ _ _, ?_⟩
    repeat (refine Below.setCell ?_ (by (try simp) <;> omega) _)
    exact HB1.out.trans (hb2.mono HB1.out.size)
  · obtain ⟨k, hk⟩ : ∃ k : Nat, fkF ⟨a0, a1, a2⟩ 0 l = k := ⟨(fkF ⟨a0, a1, a2⟩ 0 l).toNat, by omega⟩
    obtain ⟨x, hx, hgx, _⟩ := gtF_yes l 0 k hk
    rw [Nat.sub_zero] at hx
    have hlt : k < l.length := (List.getElem?_eq_some_iff.1 hx).1
    have hxw := FEntry.wts_at l x (List.mem_of_getElem? hx)
    obtain ⟨bc, offc, rfl, hblc, hcc⟩ := RdC.at_ FEntry.len HC.out hx
    clear hx hf
    obtain ⟨⟨y0, y1, y2⟩, ⟨y3, y4, y5, y6, y7⟩⟩ := x
    rw [FEntry.wt_eq] at hxw
    have hb0 := HB1.out
    rw [FEntry.c_eq] at hcc
    obtain ⟨u0, e0, q0⟩ := hcc 0 _ rfl
    obtain rfl := q0.val
    have g0 : w1.cell? ⟨bc, offc + k * 8, none⟩ = some (.bool y0) := (hb0.cell (p := ⟨bc, _, none⟩) hblc).trans (by simpa [Nat.add_assoc] using e0)
    obtain ⟨u1, e1, q1⟩ := hcc 1 _ rfl
    obtain rfl := q1.val
    have g1 : w1.cell? ⟨bc, offc + k * 8 + 1, none⟩ = some (.int .i64 y1) := (hb0.cell (p := ⟨bc, _, none⟩) hblc).trans (by simpa [Nat.add_assoc] using e1)
    obtain ⟨u2, e2, q2⟩ := hcc 2 _ rfl
    obtain rfl := q2.val
    have g2 : w1.cell? ⟨bc, offc + k * 8 + 2, none⟩ = some (.string y2) := (hb0.cell (p := ⟨bc, _, none⟩) hblc).trans (by simpa [Nat.add_assoc] using e2)
    obtain ⟨u3, e3, q3⟩ := hcc 3 _ rfl
    obtain rfl := q3.val
    have g3 : w1.cell? ⟨bc, offc + k * 8 + 3, none⟩ = some (.int .i64 y3) := (hb0.cell (p := ⟨bc, _, none⟩) hblc).trans (by simpa [Nat.add_assoc] using e3)
    obtain ⟨u4, e4, q4⟩ := hcc 4 _ rfl
    obtain rfl := q4.val
    have g4 : w1.cell? ⟨bc, offc + k * 8 + 3 + 1, none⟩ = some (.int .i64 y4) := (hb0.cell (p := ⟨bc, _, none⟩) hblc).trans (by simpa [Nat.add_assoc] using e4)
    obtain ⟨u5, e5, q5⟩ := hcc 5 _ rfl
    obtain rfl := q5.val
    have g5 : w1.cell? ⟨bc, offc + k * 8 + 3 + 2, none⟩ = some (.string y5) := (hb0.cell (p := ⟨bc, _, none⟩) hblc).trans (by simpa [Nat.add_assoc] using e5)
    obtain ⟨u6, e6, q6⟩ := hcc 6 _ rfl
    obtain rfl := q6.val
    have g6 : w1.cell? ⟨bc, offc + k * 8 + 3 + 3, none⟩ = some (.int .i64 y6) := (hb0.cell (p := ⟨bc, _, none⟩) hblc).trans (by simpa [Nat.add_assoc] using e6)
    obtain ⟨u7, e7, q7⟩ := hcc 7 _ rfl
    obtain ⟨A7, c7, rfl⟩ := q7.form
    have g7 : w1.cell? ⟨bc, offc + k * 8 + 3 + 4, none⟩ = some (.slice A7 y7.length c7) := (hb0.cell (p := ⟨bc, _, none⟩) hblc).trans (by simpa [Nat.add_assoc] using e7)
    have Q7 := Lib.hid q7
    clear hcc e0 q0 e1 q1 e2 q2 e3 q3 e4 q4 e5 q5 e6 q6 e7 q7
    have CP := Lib.hid (cpVal_any (FValue.mk y3 y4 y5 y6 y7) (by rw [FValue.wt_eq]; omega) [.int .i64 y3, .int .i64 y4, .string y5, .int .i64 y6, .slice A7 y7.length c7] w1 w.heap.size HB1.out.size (by rw [FValue.c_eq]; exact RdVs.cons (by unfold RdC; rfl) (RdVs.cons (by unfold RdC; rfl) (RdVs.cons (by unfold RdC; rfl) (RdVs.cons (by unfold RdC; rfl) (RdVs.cons (Q7.out.below HB1.out (Nat.le_refl _)) (RdVs.nil _ _)))))))
    have HG := Lib.hid (show gtF ⟨a0, a1, a2⟩ l = ⟨y3, y4, y5, y6, y7⟩ from hgx)
    rw [hk]
    clear hgx hb0 HC
    go_wp2_with (go_at_call 48; refine CP.out.mono ?_; rintro e w2 ⟨us, rfl, own, hb2⟩; have hv := own.vs; rw [FValue.c_eq] at hv; obtain ⟨us_0, rfl, hv_0⟩ := hv.unv; obtain ⟨us_1, rfl, hv_1⟩ := hv_0.unv; obtain ⟨us_2, rfl, hv_2⟩ := hv_1.unv; obtain ⟨us_3, rfl, hv_3⟩ := hv_2.unv; obtain ⟨Dus, dus, us_4, rfl, _, hv_4⟩ := hv_3.uns; obtain rfl := hv_4.un0; clear hv hv_0 hv_1 hv_2 hv_3 hv_4; have OWN := Lib.hid own; have C2 := Lib.hid (B2.out.below hb2 (Nat.le_refl _)); have C2l := C2.out.lt; have C2f := fun i => C2.out.frozen i; have C20 := C2.out.cell 0; have C21 := C2.out.cell 1; have C22 := C2.out.cell 2; have C23 := C2.out.cell 3; have C24 := C2.out.cell 4)
    rw [HG.out]
    refine bodyPost_ret (v := .tuple #[.agg #[.int .i64 y3, .int .i64 y4, .string y5, .int .i64 y6, .slice Dus y7.length dus], .bool true]) (by simp [results, Tryd.results26, go_sem, C20, C21, C22, C23, C24, C2l, C2f]) rfl ⟨_, _, rfl, ?_, ?_⟩
    · have s2 := hb2.size
      refine OwnI.wide (lo := w1.heap.size) (hi := w2.heap.size) ?_ (by omega) (by simp)
      repeat (refine OwnI.set ?_ (.inl (by simp; try omega)) _)
      exact OWN.out
    · repeat (refine Below.setCell ?_ (by (try simp) <;> omega) _)
      exact HB1.out.trans (hb2.mono HB1.out.size)
end Go.Proofs.YtgbeenieacnanaaDoor
