/-
  AreVars of the reference. Conditions: none.
-/
import Derived.Test.YtgbeenieacnanaaDoorIvU
import Derived.Test.YtgbeenieacnanaaDoorAvI
import Derived.BigQuiet
namespace Go.Proofs.YtgbeenieacnanaaDoor
open Go.ChangeShapes Go.WideShapes Go.ChangeAt Go.RowKit Go.Deep Go.Joins
open Go.ChangeMaps (open_string shut_string)
set_option linter.unusedVariables false
set_option linter.unusedSimpArgs false
set_option maxRecDepth 100000
set_option maxHeartbeats 4000000 in
theorem av_spec (l : List FBinding) (A : Option Addr) (c : Nat) (w : World) (B : Nat) (hw : l.length + FBinding.wts l ≤ 1000000000) (hB0 : B ≤ w.heap.size) (hr : RdC w B (.s 60 6 l.length (FBinding.flat l)) (.slice A l.length c)) :
    Calls Tryd.prog 13 #[.slice A l.length c] w fun e w' => e = .returned (.bool (bnF [] l)) ∧ Below w.heap.size w w' := by
  have HC := Lib.hid (hr.up hB0)
  clear hr hB0
  have hn : l.length ≤ 9223372036854775807 := by omega
  go_enter Tryd.func13, Tryd.ntmps13
  go_wp2_with fail
  go_loopw [3] (fun i wr => ∃ k : Nat, k ≤ l.length ∧ i = .int .i64 k ∧ bnF [] l = bnF (nsF l k) (l.drop k) ∧ Below w.heap.size w wr) (fun i _ => l.length - (intOf i).toNat)
  case atStart => exact ⟨0, Nat.zero_le _, rfl, rfl, Below.refl _ _⟩
  case round =>
    obtain ⟨k, hk, rfl, hm, hb0⟩ := hrel
    by_cases hlt : k < l.length
    · skip
      obtain ⟨x, hx⟩ : ∃ x, l[k]? = some x := ⟨_, List.getElem?_eq_getElem hlt⟩
      obtain ⟨bc, offc, rfl, hblc, hcc⟩ := RdC.at_ FBinding.len HC.out hx
      rw [bdrop_of hx] at hm
      have hmem := List.mem_of_getElem? hx
      have HX := Lib.hid hx
      obtain ⟨y0, ⟨y1, y2, y3, y4, y5⟩⟩ := x
      have hbw := bnd_wt hmem
      have hvw : (FValue.mk y1 y2 y3 y4 y5).wt ≤ 1000000000 := by omega
      have hxo : y0.size ≤ 9223372036854775807 := by omega
      rw [FBinding.c_eq] at hcc
      obtain ⟨u0, e0, q0⟩ := hcc 0 _ rfl
      obtain rfl := q0.val
      obtain ⟨u1, e1, q1⟩ := hcc 1 _ rfl
      obtain rfl := q1.val
      obtain ⟨u2, e2, q2⟩ := hcc 2 _ rfl
      obtain rfl := q2.val
      obtain ⟨u3, e3, q3⟩ := hcc 3 _ rfl
      obtain rfl := q3.val
      obtain ⟨u4, e4, q4⟩ := hcc 4 _ rfl
      obtain rfl := q4.val
      obtain ⟨u5, e5, q5⟩ := hcc 5 _ rfl
      obtain ⟨A5, c5, rfl⟩ := q5.form
      have HG0 := Lib.hid (fun W (hb : Below w.heap.size w W) => (hb.cell (p := ⟨bc, offc + k * 6, none⟩) hblc).trans (show w.cell? ⟨bc, offc + k * 6, none⟩ = some (.string y0) from by simpa [Nat.add_assoc] using e0))
      have HG1 := Lib.hid (fun W (hb : Below w.heap.size w W) => (hb.cell (p := ⟨bc, offc + k * 6 + 1, none⟩) hblc).trans (show w.cell? ⟨bc, offc + k * 6 + 1, none⟩ = some (.int .i64 y1) from by simpa [Nat.add_assoc] using e1))
      have HG2 := Lib.hid (fun W (hb : Below w.heap.size w W) => (hb.cell (p := ⟨bc, offc + k * 6 + 1 + 1, none⟩) hblc).trans (show w.cell? ⟨bc, offc + k * 6 + 1 + 1, none⟩ = some (.int .i64 y2) from by simpa [Nat.add_assoc] using e2))
      have HG3 := Lib.hid (fun W (hb : Below w.heap.size w W) => (hb.cell (p := ⟨bc, offc + k * 6 + 1 + 2, none⟩) hblc).trans (show w.cell? ⟨bc, offc + k * 6 + 1 + 2, none⟩ = some (.string y3) from by simpa [Nat.add_assoc] using e3))
      have HG4 := Lib.hid (fun W (hb : Below w.heap.size w W) => (hb.cell (p := ⟨bc, offc + k * 6 + 1 + 3, none⟩) hblc).trans (show w.cell? ⟨bc, offc + k * 6 + 1 + 3, none⟩ = some (.int .i64 y4) from by simpa [Nat.add_assoc] using e4))
      have HG5 := Lib.hid (fun W (hb : Below w.heap.size w W) => (hb.cell (p := ⟨bc, offc + k * 6 + 1 + 4, none⟩) hblc).trans (show w.cell? ⟨bc, offc + k * 6 + 1 + 4, none⟩ = some (.slice A5 y5.length c5) from by simpa [Nat.add_assoc] using e5))
      have Q5 := Lib.hid q5
      clear hcc e0 q0 e1 q1 e2 q2 e3 q3 e4 q4 e5 q5 hmem
      have HNS := Lib.hid (show nsF l (k + 1) = y0.toList :: nsF l k from nsF_succ hx)
      clear hx
      rw [bnF] at hm
      have HPL := Lib.hid (wpv_spec _ hvw).2.1
      have HB0 := Lib.hid hb0
      clear hb0
      go_wp2_with fail
      go_loopw [4] (fun i wr2 => ∃ j : Nat, j ≤ k ∧ i = .int .i64 j ∧ (∀ m e, m < j → l[m]? = some e → e.nmL ≠ y0.toList) ∧ Below w.heap.size w wr2) (fun i _ => k - (intOf i).toNat)
      case atStart => exact ⟨0, Nat.zero_le _, rfl, fun m e hm => absurd hm (by omega), HB0.out⟩
      case round =>
        obtain ⟨j, hj, rfl, hno, hb1⟩ := hrel
        by_cases hjk : j < k
        · obtain ⟨x, hx⟩ : ∃ x, l[j]? = some x := ⟨_, List.getElem?_eq_getElem (by omega)⟩
          obtain ⟨bd, offd, hbd, hbld, hcd⟩ := RdC.at_ FBinding.len HC.out hx
          simp only [Option.some.injEq, Addr.mk.injEq, and_true] at hbd
          obtain ⟨rfl, rfl⟩ := hbd
          have hxj := hx
          obtain ⟨d0, ⟨d1, d2, d3, d4, d5⟩⟩ := x
          rw [FBinding.c_eq] at hcd
          obtain ⟨u0, e0, q0⟩ := hcd 0 _ rfl
          obtain rfl := q0.val
          have gj : wr.cell? ⟨bc, offc + j * 6, none⟩ = some (.string d0) := (hb1.cell (p := ⟨bc, _, none⟩) hblc).trans (by simpa using e0)
          have gk := HG0.out _ hb1
          have hjl : j < l.length := by omega
          have HB1 := Lib.hid hb1
          clear hcd e0 q0 hb1
          cases hq : (d0.toList == y0.toList) with
          | true =>
            have HM := Lib.hid (show false = bnF [] l from by
              have h2 : hasS (nsF l k) y0.toList = true := nsF_mem.2 ⟨j, _, hjk, hxj, (show d0.toList = y0.toList by simpa using hq)⟩
              rw [hm, h2]; simp)
            clear hm hno hx hxj
            go_wp2_with fail
            go_quiet (fail)
            go_wp2_with fail
            go_ret
            exact ⟨ret_bool HM.out, below_drewN HB1.out _⟩
          | false =>
            have HNO := Lib.hid (show ∀ m e, m < j + 1 → l[m]? = some e → e.nmL ≠ y0.toList from fun m e hm he => by
              by_cases h : m = j
              · subst h
                rw [hxj] at he
                injection he with he
                subst he
                show d0.toList ≠ _
                simpa using hq
              · exact hno m e (by omega) he)
            clear hno hx hxj
            go_wp2_with fail
            go_quiet (fail)
            go_wp2_with fail
            go_roundw
            case rel => exact ⟨j + 1, by omega, by go_num, HNO.out, below_drewN HB1.out _⟩
            case measure => simp [intOf]; omega
        · obtain rfl : j = k := by omega
          have HB1 := Lib.hid hb1
          have h2 : hasS (nsF l j) y0.toList = false := by
            cases h : hasS (nsF l j) y0.toList with
            | false => rfl
            | true =>
              obtain ⟨m, e, h3, h4, h5⟩ := nsF_mem.1 h
              exact absurd h5 (hno m e h3 h4)
          rw [h2] at hm
          clear hno h2 hb1
          have g0 := HG0.out _ HB1.out
          have g1 := HG1.out _ HB1.out
          have g2 := HG2.out _ HB1.out
          have g3 := HG3.out _ HB1.out
          have g4 := HG4.out _ HB1.out
          have g5 := HG5.out _ HB1.out
          cases hgf : goodF y0 with
          | false =>
            have HGF := Lib.hid hgf
            have HM := Lib.hid (show false = bnF [] l from by rw [hm, hgf]; simp)
            clear hm
            go_wp2_with (first | (go_at_call 33; refine (good_spec y0 _ hxo).mono ?_; rw [HGF.out]; rintro e w2 ⟨rfl, hb2⟩; have HB2 := Lib.hid (HB1.out.trans (hb2.mono HB1.out.size)); have h2_0 := HG0.out _ HB2.out; have h2_1 := HG1.out _ HB2.out; have h2_2 := HG2.out _ HB2.out; have h2_3 := HG3.out _ HB2.out; have h2_4 := HG4.out _ HB2.out; have h2_5 := HG5.out _ HB2.out))
            go_ret
            exact ⟨ret_bool HM.out, HB2.out⟩
          | true =>
            have HGF := Lib.hid hgf
            rw [hgf] at hm
            cases hth : (y0.toList == thisL) with
            | true =>
              have hth2 : (y0.toList == [116, 104, 105, 115]) = true := hth
              have HM := Lib.hid (show false = bnF [] l from by rw [hm, hth]; simp)
              clear hm
              go_wp2_with (first | (go_at_call 33; refine (good_spec y0 _ hxo).mono ?_; rw [HGF.out]; rintro e w2 ⟨rfl, hb2⟩; have HB2 := Lib.hid (HB1.out.trans (hb2.mono HB1.out.size)); have h2_0 := HG0.out _ HB2.out; have h2_1 := HG1.out _ HB2.out; have h2_2 := HG2.out _ HB2.out; have h2_3 := HG3.out _ HB2.out; have h2_4 := HG4.out _ HB2.out; have h2_5 := HG5.out _ HB2.out))
              go_ret
              exact ⟨ret_bool HM.out, HB2.out⟩
            | false =>
              have hth2 : (y0.toList == [116, 104, 105, 115]) = false := hth
              rw [hth] at hm
              cases hiv : isV ⟨y1, y2, y3, y4, y5⟩ with
              | false =>
                have HIV := Lib.hid hiv
                have HM := Lib.hid (show false = bnF [] l from by rw [hm, hiv]; simp)
                clear hm
                go_wp2_with (first | (go_at_call 33; refine (good_spec y0 _ hxo).mono ?_; rw [HGF.out]; rintro e w2 ⟨rfl, hb2⟩; have HB2 := Lib.hid (HB1.out.trans (hb2.mono HB1.out.size)); have h2_0 := HG0.out _ HB2.out; have h2_1 := HG1.out _ HB2.out; have h2_2 := HG2.out _ HB2.out; have h2_3 := HG3.out _ HB2.out; have h2_4 := HG4.out _ HB2.out; have h2_5 := HG5.out _ HB2.out) | (go_at_call 34; refine (isV_spec ⟨y1, y2, y3, y4, y5⟩ hvw [.int .i64 y1, .int .i64 y2, .string y3, .int .i64 y4, .slice A5 y5.length c5] _ w.heap.size HB2.out.size (by rw [FValue.c_eq]; exact RdVs.cons (by unfold RdC; rfl) (RdVs.cons (by unfold RdC; rfl) (RdVs.cons (by unfold RdC; rfl) (RdVs.cons (by unfold RdC; rfl) (RdVs.cons (Q5.out.below HB2.out (Nat.le_refl _)) (RdVs.nil _ _))))))).mono ?_; rw [HIV.out]; rintro e w3 ⟨rfl, hb3⟩; have HB3 := Lib.hid (HB2.out.trans (hb3.mono HB2.out.size)); have h3_0 := HG0.out _ HB3.out; have h3_1 := HG1.out _ HB3.out; have h3_2 := HG2.out _ HB3.out; have h3_3 := HG3.out _ HB3.out; have h3_4 := HG4.out _ HB3.out; have h3_5 := HG5.out _ HB3.out))
                go_ret
                exact ⟨ret_bool HM.out, HB3.out⟩
              | true =>
                have HIV := Lib.hid hiv
                rw [hiv] at hm
                cases hip : plF ⟨y1, y2, y3, y4, y5⟩ with
                | false =>
                  have HIP := Lib.hid hip
                  have HM := Lib.hid (show false = bnF [] l from by rw [hm, hip]; simp)
                  clear hm
                  go_wp2_with (first | (go_at_call 33; refine (good_spec y0 _ hxo).mono ?_; rw [HGF.out]; rintro e w2 ⟨rfl, hb2⟩; have HB2 := Lib.hid (HB1.out.trans (hb2.mono HB1.out.size)); have h2_0 := HG0.out _ HB2.out; have h2_1 := HG1.out _ HB2.out; have h2_2 := HG2.out _ HB2.out; have h2_3 := HG3.out _ HB2.out; have h2_4 := HG4.out _ HB2.out; have h2_5 := HG5.out _ HB2.out) | (go_at_call 34; refine (isV_spec ⟨y1, y2, y3, y4, y5⟩ hvw [.int .i64 y1, .int .i64 y2, .string y3, .int .i64 y4, .slice A5 y5.length c5] _ w.heap.size HB2.out.size (by rw [FValue.c_eq]; exact RdVs.cons (by unfold RdC; rfl) (RdVs.cons (by unfold RdC; rfl) (RdVs.cons (by unfold RdC; rfl) (RdVs.cons (by unfold RdC; rfl) (RdVs.cons (Q5.out.below HB2.out (Nat.le_refl _)) (RdVs.nil _ _))))))).mono ?_; rw [HIV.out]; rintro e w3 ⟨rfl, hb3⟩; have HB3 := Lib.hid (HB2.out.trans (hb3.mono HB2.out.size)); have h3_0 := HG0.out _ HB3.out; have h3_1 := HG1.out _ HB3.out; have h3_2 := HG2.out _ HB3.out; have h3_3 := HG3.out _ HB3.out; have h3_4 := HG4.out _ HB3.out; have h3_5 := HG5.out _ HB3.out) | (go_at_call 35; refine (HPL.out [.int .i64 y1, .int .i64 y2, .string y3, .int .i64 y4, .slice A5 y5.length c5] _ w.heap.size HB3.out.size (by rw [FValue.c_eq]; exact RdVs.cons (by unfold RdC; rfl) (RdVs.cons (by unfold RdC; rfl) (RdVs.cons (by unfold RdC; rfl) (RdVs.cons (by unfold RdC; rfl) (RdVs.cons (Q5.out.below HB3.out (Nat.le_refl _)) (RdVs.nil _ _))))))).mono ?_; rw [HIP.out]; rintro e w4 ⟨rfl, hb4⟩))
                  go_ret
                  exact ⟨ret_bool HM.out, HB3.out.trans (hb4.mono HB3.out.size)⟩
                | true =>
                  have HIP := Lib.hid hip
                  have HM := Lib.hid (show bnF [] l = bnF (nsF l (j + 1)) (l.drop (j + 1)) from by rw [hm, hip, HNS.out]; simp)
                  clear hm
                  go_wp2_with (first | (go_at_call 33; refine (good_spec y0 _ hxo).mono ?_; rw [HGF.out]; rintro e w2 ⟨rfl, hb2⟩; have HB2 := Lib.hid (HB1.out.trans (hb2.mono HB1.out.size)); have h2_0 := HG0.out _ HB2.out; have h2_1 := HG1.out _ HB2.out; have h2_2 := HG2.out _ HB2.out; have h2_3 := HG3.out _ HB2.out; have h2_4 := HG4.out _ HB2.out; have h2_5 := HG5.out _ HB2.out) | (go_at_call 34; refine (isV_spec ⟨y1, y2, y3, y4, y5⟩ hvw [.int .i64 y1, .int .i64 y2, .string y3, .int .i64 y4, .slice A5 y5.length c5] _ w.heap.size HB2.out.size (by rw [FValue.c_eq]; exact RdVs.cons (by unfold RdC; rfl) (RdVs.cons (by unfold RdC; rfl) (RdVs.cons (by unfold RdC; rfl) (RdVs.cons (by unfold RdC; rfl) (RdVs.cons (Q5.out.below HB2.out (Nat.le_refl _)) (RdVs.nil _ _))))))).mono ?_; rw [HIV.out]; rintro e w3 ⟨rfl, hb3⟩; have HB3 := Lib.hid (HB2.out.trans (hb3.mono HB2.out.size)); have h3_0 := HG0.out _ HB3.out; have h3_1 := HG1.out _ HB3.out; have h3_2 := HG2.out _ HB3.out; have h3_3 := HG3.out _ HB3.out; have h3_4 := HG4.out _ HB3.out; have h3_5 := HG5.out _ HB3.out) | (go_at_call 35; refine (HPL.out [.int .i64 y1, .int .i64 y2, .string y3, .int .i64 y4, .slice A5 y5.length c5] _ w.heap.size HB3.out.size (by rw [FValue.c_eq]; exact RdVs.cons (by unfold RdC; rfl) (RdVs.cons (by unfold RdC; rfl) (RdVs.cons (by unfold RdC; rfl) (RdVs.cons (by unfold RdC; rfl) (RdVs.cons (Q5.out.below HB3.out (Nat.le_refl _)) (RdVs.nil _ _))))))).mono ?_; rw [HIP.out]; rintro e w4 ⟨rfl, hb4⟩))
                  go_roundw
                  case rel => exact ⟨j + 1, by omega, by go_num, HM.out, HB3.out.trans (hb4.mono HB3.out.size)⟩
                  case measure => simp [intOf]; omega
    · obtain rfl : k = l.length := by omega
      have HM := Lib.hid (show true = bnF [] l from by rw [hm, List.drop_length, bnF])
      have HB1 := Lib.hid hb0
      clear hm hb0
      go_wp2_with fail
      go_ret
      exact ⟨ret_bool HM.out, HB1.out⟩
end Go.Proofs.YtgbeenieacnanaaDoor
