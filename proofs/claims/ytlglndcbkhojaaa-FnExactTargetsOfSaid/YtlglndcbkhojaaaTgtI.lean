/-
  TargetsOf of package impl. Conditions: none.
-/
import Derived.Test.YtlglndcbkhojaaaTgtA
import Derived.Deep.DeepMust
namespace Go.Proofs.Ytlglndcbkhojaaa
open Go.ChangeShapes Go.WideShapes Go.ChangeAt Go.RowKit Go.Deep Go.Joins
open Go.ChangeMaps (open_string shut_string)
set_option linter.unusedVariables false
set_option linter.unusedSimpArgs false
set_option maxRecDepth 100000
set_option maxHeartbeats 4000000 in
theorem TargetsOf_impl (z0 : ByteArray) (z1 : List FParam) (z2 : List FParam) (z3 : List FStr) (z4 : Bool) (z5 : List FIns) (us : List Value) (w : World) (hl : z5.length ≤ 1000000000) {B : Nat} (hB0 : B ≤ w.heap.size) (hr : RdVs w B (FFunc.c ⟨z0, z1, z2, z3, z4, z5⟩) us) :
    Calls Try.prog 28 #[.agg us.toArray] w fun e w' => ∃ A c, e = .returned (.slice A (tgF z5).length c) ∧ w'.ownsRow w.heap.size 3 1 (.slice A (tgF z5).length c) (tgF z5).length ((tgF z5).map (Value.int .i64)) ∧ Below w.heap.size w w' := by
  rw [FFunc.c_eq] at hr
  obtain ⟨us0, rfl, hr_0⟩ := hr.unv
  obtain ⟨A1, c1, us1, rfl, r1, hr_1⟩ := hr_0.uns
  obtain ⟨A2, c2, us2, rfl, r2, hr_2⟩ := hr_1.uns
  obtain ⟨A3, c3, us3, rfl, r3, hr_3⟩ := hr_2.uns
  obtain ⟨us4, rfl, hr_4⟩ := hr_3.unv
  obtain ⟨A5, c5, us5, rfl, r5, hr_5⟩ := hr_4.uns
  obtain rfl := hr_5.un0
  have HC := Lib.hid (r5.up hB0)
  have hn : z5.length ≤ 9223372036854775807 := by omega
  clear r5 hr hr_0 hr_1 hr_2 hr_3 hr_4 hr_5 r1 r2 r3
  go_enter Try.func28, Try.ntmps28
  go_wp2_with fail
  go_loopw [3, 10] (fun v i wr => ∃ (k g c : Nat), k ≤ z5.length ∧ i = .int .i64 k ∧ v = .slice (some ⟨g, 0, none⟩) (tgts z5 z5.length k).length c ∧ wr.ownsRow (w.heap.size + 1) 3 1 (.slice (some ⟨g, 0, none⟩) (tgts z5 z5.length k).length c) (tgts z5 z5.length k).length ((tgts z5 z5.length k).map (Value.int .i64)) ∧ Blk wr w.heap.size 32 #[.string z0, .slice A1 z1.length c1, .slice A2 z2.length c2, .slice A3 z3.length c3, .bool z4, .slice A5 z5.length c5] ∧ Below w.heap.size w wr) (fun _ i _ => z5.length - (intOf i).toNat)
  case atStart => exact ⟨0, w.heap.size + 1, 0, Nat.zero_le _, rfl, by simp [tgts], by simpa [tgts] using own_empty (w.alloc (.cells #[.string z0, .slice A1 z1.length c1, .slice A2 z2.length c2, .slice A3 z3.length c3, .bool z4, .slice A5 z5.length c5] 32)) 3 1, (Blk.new _ _ _).alloc _, ((Below.refl _ _).alloc (Nat.le_refl _) _).alloc (by simp) _⟩
  case round =>
    obtain ⟨k, g, c, hk, rfl, rfl, own, ba, hb⟩ := hrel
    have hbs := hb.size
    have bal := ba.lt
    have tl := tgts_len z5 z5.length k
    have ba_5 : wr.cell? ⟨w.heap.size, 5, none⟩ = some (.slice A5 z5.length c5) := ba.cell 5
    have OWN := Lib.hid own
    clear own
    by_cases hlt : k < z5.length
    · obtain ⟨x, hx⟩ : ∃ x, z5[k]? = some x := ⟨_, List.getElem?_eq_getElem hlt⟩
      obtain ⟨bc, offc, rfl, hblc, hcc⟩ := RdC.at_ FIns.len HC.out hx
      have HT := Lib.hid (tgts_succ z5 z5.length k x hx)
      clear hx
      obtain ⟨y0, y1, y2, y3, y4⟩ := x
      rw [FIns.c_eq] at hcc
      obtain ⟨u0, e0, q0⟩ := hcc 0 _ rfl
      obtain rfl := q0.val
      have c_0 : wr.cell? ⟨bc, offc + k * 5, none⟩ = some (.int .i64 y0) := (hb.cell (p := ⟨bc, _, none⟩) hblc).trans (by simpa using e0)
      clear e0 q0
      obtain ⟨u1, e1, q1⟩ := hcc 1 _ rfl
      obtain rfl := q1.val
      have c_1 : wr.cell? ⟨bc, offc + k * 5 + 1, none⟩ = some (.int .i64 y1) := (hb.cell (p := ⟨bc, _, none⟩) hblc).trans (by simpa using e1)
      clear e1 q1
      obtain ⟨u2, e2, q2⟩ := hcc 2 _ rfl
      obtain rfl := q2.val
      have c_2 : wr.cell? ⟨bc, offc + k * 5 + 2, none⟩ = some (.int .i64 y2) := (hb.cell (p := ⟨bc, _, none⟩) hblc).trans (by simpa using e2)
      clear e2 q2
      obtain ⟨u3, e3, q3⟩ := hcc 3 _ rfl
      obtain rfl := q3.val
      have c_3 : wr.cell? ⟨bc, offc + k * 5 + 3, none⟩ = some (.string y3) := (hb.cell (p := ⟨bc, _, none⟩) hblc).trans (by simpa using e3)
      clear e3 q3
      obtain ⟨u4, e4, q4⟩ := hcc 4 _ rfl
      obtain rfl := q4.val
      have c_4 : wr.cell? ⟨bc, offc + k * 5 + 4, none⟩ = some (.string y4) := (hb.cell (p := ⟨bc, _, none⟩) hblc).trans (by simpa using e4)
      clear e4 q4
      clear hcc
      by_cases h1 : htF y0 = true
      case neg =>
        have h1' : htF y0 = false := by simpa using h1
        have HO := Lib.hid (show tgtOne z5.length ⟨y0, y1, y2, y3, y4⟩ = [] from if_neg (fun h => h1 h.1))
        clear h1
        go_wp2_with (go_at_call 65; refine (ht_impl _ _).mono ?_; rintro e w' ⟨rfl, rfl⟩)
        go_roundw
        case rel => exact ⟨k + 1, g, c, by omega, by go_num, by rw [HT.out, HO.out, List.append_nil], by rw [HT.out, HO.out, List.append_nil]; exact OWN.out.alloc _, ba.alloc _, hb.alloc (by omega) _⟩
        case measure => simp [intOf]; omega
      by_cases h2 : 0 ≤ y1
      case neg =>
        have h2' : decide (0 ≤ y1) = false := by simpa using h2
        have HO := Lib.hid (show tgtOne z5.length ⟨y0, y1, y2, y3, y4⟩ = [] from if_neg (fun h => h2 h.2.1))
        clear h2
        go_wp2_with (go_at_call 65; refine (ht_impl _ _).mono ?_; rintro e w' ⟨rfl, rfl⟩)
        go_roundw
        case rel => exact ⟨k + 1, g, c, by omega, by go_num, by rw [HT.out, HO.out, List.append_nil], by rw [HT.out, HO.out, List.append_nil]; exact OWN.out.alloc _, ba.alloc _, hb.alloc (by omega) _⟩
        case measure => simp [intOf]; omega
      by_cases h3 : y1 < (z5.length : Int)
      case neg =>
        have h2' : decide (0 ≤ y1) = true := by simpa using h2
        have h3' : decide (y1 < (z5.length : Int)) = false := by simpa using h3
        have HO := Lib.hid (show tgtOne z5.length ⟨y0, y1, y2, y3, y4⟩ = [] from if_neg (fun h => h3 h.2.2))
        clear h2 h3
        go_wp2_with (go_at_call 65; refine (ht_impl _ _).mono ?_; rintro e w' ⟨rfl, rfl⟩)
        go_roundw
        case rel => exact ⟨k + 1, g, c, by omega, by go_num, by rw [HT.out, HO.out, List.append_nil], by rw [HT.out, HO.out, List.append_nil]; exact OWN.out.alloc _, ba.alloc _, hb.alloc (by omega) _⟩
        case measure => simp [intOf]; omega
      have h2' : decide (0 ≤ y1) = true := by simpa using h2
      have h3' : decide (y1 < (z5.length : Int)) = true := by simpa using h3
      have HO := Lib.hid (show tgtOne z5.length ⟨y0, y1, y2, y3, y4⟩ = [y1] from if_pos ⟨h1, h2, h3⟩)
      clear h2 h3
      have hrd : Rd ((wr.alloc (.cells #[.int .i64 y0, .int .i64 y1, .int .i64 y2, .string y3, .string y4] 75)).alloc (.cells #[.int .i64 y1] 3)) (wr.heap.size + 2) 1 (.slice (some ⟨wr.heap.size + 1, 0, none⟩) 1 1) 1 [.int .i64 y1] := by
        refine ⟨_, _, rfl, Nat.le_refl _, by unfold maxLen; omega, rfl, fun _ => ⟨_, _, rfl, by omega, fun j u hu => ?_⟩⟩
        match j, hu with
        | 0, hu => obtain rfl : Value.int .i64 y1 = u := by simpa using hu
                   simp [go_sem]
      have RDX := Lib.hid hrd
      have L1 := Lib.hid (own_lt OWN.out)
      clear hrd
      go_wp2_with (first | (go_at_call 65; refine (ht_impl _ _).mono ?_; rintro e w' ⟨rfl, rfl⟩) | (at_builtin; go_must (refine wpList_append_rd _ rfl (.tmp 30) (.tmp 33) _ rfl (w.heap.size + 1) _ _ _ 8 Try.underlying51 infoInt rfl (by omega) (.slice (some ⟨g, 0, none⟩) (tgts z5 z5.length k).length c) _ _ rfl ((OWN.out.alloc _).alloc _) (wr.heap.size + 2) _ 1 _ [.int .i64 y1] rfl RDX.out (by intro u hu; simp only [List.mem_cons, List.not_mem_nil, or_false] at hu; rcases hu with rfl; rfl) (by unfold maxLen; omega) (by omega) (by simp; omega) ?_); intro v2 w4 hown2 hg2 hat2; obtain ⟨A6, c6, rfl⟩ := own_form hown2; have HG2 := Lib.hid hg2; have HW2 := Lib.hid hown2; clear hg2 hat2 hown2))
      go_roundw
      case rel =>
        have hown2 := HW2.out
        have hg2 := HG2.out
        have hgw := (L1.out g rfl)
        rcases own_row hown2 with ⟨hv, h0, _⟩ | ⟨g6, cap6, f6, hv, _, _, _, _, _⟩
        · omega
        · injection hv with e1 e2 e3
          subst e1
          have ba2 : Blk w4 w.heap.size 32 #[.string z0, .slice A1 z1.length c1, .slice A2 z2.length c2, .slice A3 z3.length c3, .bool z4, .slice (some ⟨bc, offc, none⟩) z5.length c5] := (hg2.block w.heap.size (by simp; omega) (fun e => by have := (L1.out _ e.symm).1; omega)).trans ((ba.alloc _).alloc _)
          refine ⟨k + 1, g6, c6, by omega, by go_num, by rw [HT.out, HO.out, List.length_append]; rfl, ?_, ba2, ((hb.alloc (by omega) _).alloc (by simp; omega) _).grown hg2 (by simp; omega) (fun j hj => by have := (L1.out j hj).1; omega)⟩
          rw [HT.out, HO.out, List.length_append, List.map_append]
          exact hown2
      case measure => simp [intOf]; omega
    · obtain rfl : k = z5.length := by omega
      clear hlt
      have TG := Lib.hid (tg_impl z5)
      generalize hT : tgts z5 z5.length z5.length = T at *
      clear hT
      have LN := Lib.hid (show (srt T).length = T.length from List.length_mergeSort T)
      have hgw := own_lt OWN.out g rfl
      go_wp2_with (first | (go_at_call 70; refine (sortInt_any T _ OWN.out (by omega)).mono ?_; rintro e w2 ⟨rfl, own2, hg2⟩; have hC := compactInt_any (srt T) w2 (cap := c) (by rw [LN.out]; exact own2) (by rw [LN.out]; omega); rw [LN.out, TG.out] at hC; have HC2 := Lib.hid hC; have HG2 := Lib.hid hg2; clear hC hg2 own2) | (go_at_call 71; refine HC2.out.mono ?_; rintro e w3 ⟨rfl, own3, hg3⟩; have HW3 := Lib.hid own3; have HG3 := Lib.hid hg3; clear own3 hg3))
      go_ret
      have hg2 := HG2.out
      have hs2 := hg2.size
      exact ⟨_, _, rfl, ownsRow_le HW3.out (by omega), (hb.grown hg2 (by omega) (fun j hj => by injection hj with hj; omega)).grown HG3.out (by omega) (fun j hj => by injection hj with hj; omega)⟩
end Go.Proofs.Ytlglndcbkhojaaa
