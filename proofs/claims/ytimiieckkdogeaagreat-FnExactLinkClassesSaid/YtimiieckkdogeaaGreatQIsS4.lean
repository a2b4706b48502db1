/-
  Parts of the proof: IsS4. Conditions: none.
-/
import Derived.Test.YtimiieckkdogeaaGreatQGBaseNd
import Derived.Test.YtimiieckkdogeaaGreatQIsS3
set_option linter.unusedVariables false
set_option linter.unusedSimpArgs false
namespace Go.Proofs.YtimiieckkdogeaaGreat
set_option maxHeartbeats 40000000
open Lib (hid)
open Go.ChangeShapes Go.WideShapes Go.ChangeAt Go.RowKit Go.Deep Go.Joins
open Go.ChangeMaps (open_string shut_string)
set_option maxRecDepth 100000
theorem usS_of (use : Bool) (l : List FNode) (hl : l.length ≤ 1000000000) (hW : ∀ x, x ∈ l → x.tx.size ≤ 9223372036854775807 ∧ x.kids.length ≤ 9000000000) (hS : ∀ x, x ∈ l → BkS x) : UsS use l := by
  intro u w B hB0 hr
  obtain ⟨A, c, rfl⟩ := hr.form
  by_cases hn : l = []
  · subst hn
    clear hr hS
    go_enter Tryz.func45, Tryz.ntmps45
    go_wp2_with fail
    go_loopw [7, 5] (fun i s wr => i = .int .i64 0 ∧ s = .bool false ∧ wr = w) (fun i _ _ => 0)
    case atStart => exact ⟨rfl, rfl, rfl⟩
    case round =>
      obtain ⟨rfl, rfl, rfl⟩ := hrel
      go_wp2_with fail
      go_ret
      exact ⟨ret_bool (usF_nil use).symm, Below.refl _ _⟩
  · obtain ⟨r, ⟨b0, b1, b2, b3⟩, rfl⟩ := snoc_of hn
    have HQ := hid (show usF use (r ++ [⟨b0, b1, b2, b3⟩]) = (prmF use false r && blF ⟨b0, b1, b2, b3⟩) from by rw [usF_snoc, Bool.and_comm])
    have HV := hid (hS ⟨b0, b1, b2, b3⟩ (by simp))
    obtain ⟨m, hm⟩ : ∃ m, r.length = m := ⟨_, rfl⟩
    have HX0 := hid (show (r ++ [FNode.mk b0 b1 b2 b3])[m]? = some ⟨b0, b1, b2, b3⟩ from by rw [← hm]; simp)
    have HC := hid hr
    rw [show (r ++ [FNode.mk b0 b1 b2 b3]).length = m + 1 from by simp [hm]] at hr hl ⊢
    have HW : Hid (∀ x, x ∈ r → x.tx.size ≤ 9223372036854775807 ∧ x.kids.length ≤ 9000000000) := hid (fun x hx => hW x (List.mem_append_left _ hx))
    clear hW
    have HLEN := hid hm
    obtain ⟨bc, offc, rfl, hblc, hcc⟩ := RdC.at_ FNode.len HC.out HX0.out
    clear hr hm hS hn
    rw [FNode.c_eq] at hcc
    obtain ⟨u0, e0, q0⟩ := hcc 0 _ rfl
    obtain rfl := q0.val
    obtain ⟨u1, e1, q1⟩ := hcc 1 _ rfl
    obtain rfl := q1.val
    obtain ⟨u2, e2, q2⟩ := hcc 2 _ rfl
    obtain rfl := q2.val
    obtain ⟨u3, e3, q3⟩ := hcc 3 _ rfl
    obtain ⟨D, d, rfl⟩ := q3.form
    have c_0 : w.cell? ⟨bc, offc + m * 4, none⟩ = some (.int .i64 b0) := by simpa using e0
    have c_1 : w.cell? ⟨bc, offc + m * 4 + 1, none⟩ = some (.int .i64 b1) := by simpa using e1
    have c_2 : w.cell? ⟨bc, offc + m * 4 + 2, none⟩ = some (.string b2) := by simpa using e2
    have c_3 : w.cell? ⟨bc, offc + m * 4 + 3, none⟩ = some (.slice D b3.length d) := by simpa using e3
    have Q3b := hid q3
    clear hcc e0 e1 e2 e3 q0 q1 q2 q3
    have hblw : bc < w.heap.size := Nat.lt_of_lt_of_le hblc hB0
    have CC := hid (And.intro c_0 (And.intro c_1 (And.intro c_2 c_3)))
    clear c_0 c_1 c_2 c_3
    go_enter Tryz.func45, Tryz.ntmps45
    go_wp2_with fail
    go_loopw [7, 5] (fun i s wr => ∃ (k : Nat) (seen : Bool), k ≤ m ∧ i = .int .i64 k ∧ s = .bool seen ∧ Hid (prmF use false r = prmF use seen (r.drop k)) ∧ Below w.heap.size w wr) (fun i _ _ => m - (intOf i).toNat)
    case atStart => exact ⟨0, false, Nat.zero_le _, rfl, rfl, hid rfl, Below.refl _ _⟩
    case round =>
      obtain ⟨k, seen, hk, rfl, rfl, HP0, hb⟩ := hrel
      have hbs := hb.size
      by_cases hlt : k < m
      · have hlt2 : k < (r ++ [FNode.mk b0 b1 b2 b3]).length := by rw [List.length_append, HLEN.out]; exact Nat.lt_succ_of_lt hlt
        obtain ⟨x, hx⟩ : ∃ x, (r ++ [FNode.mk b0 b1 b2 b3])[k]? = some x := ⟨_, List.getElem?_eq_getElem hlt2⟩
        obtain ⟨bc2, offc2, EE, hblc2, hcc⟩ := RdC.at_ FNode.len HC.out hx
        obtain ⟨rfl, rfl⟩ : bc = bc2 ∧ offc = offc2 := by simpa using EE
        have HX := hid hx
        have HM := hid (List.mem_of_getElem? hx)
        clear hx
        obtain ⟨y0, y1, y2, y3⟩ := x
        obtain ⟨D2, d2, d_0, d_1, d_2, d_3, q3⟩ := opN hb (by omega) hcc (offc + k * 4) (offc + k * 4 + 1) (offc + k * 4 + 2) (offc + k * 4 + 3) (by omega)
        have Q3 := hid q3
        clear hcc q3
        have HXR : r[k]? = some ⟨y0, y1, y2, y3⟩ := by
          have h := HX.out
          rwa [List.getElem?_append_left (by rw [HLEN.out]; exact hlt)] at h
        obtain ⟨q, hq⟩ : ∃ q, y3.length = q := ⟨_, rfl⟩
        have HE : y3.isEmpty = (q == 0) := by rw [← hq]; cases y3 <;> rfl
        have HP := hid (show prmF use seen (r.drop k) = ((y0 == 24 && !seen || y0 == 25 && use) && (inB y1 0 1 && (goodF y2 && ((q == 0) && prmF use (seen || y0 == 25) (r.drop (k + 1)))))) from by rw [← HE]; exact prmF_at use seen r k _ HXR)
        rw [hq] at d_3
        have hqb : q ≤ 9000000000 := by have := (HW.out _ (List.mem_of_getElem? HXR)).2; simp only [FNode.kids] at this; omega
        have HZ : Hid (y2.size ≤ 9223372036854775807) := hid (HW.out _ (List.mem_of_getElem? HXR)).1
        clear HXR HE hq HX HM Q3
        by_cases e25 : y0 = 25
        · subst e25
          cases use with
          | true =>
            have hb2 := hid (hb.alloc hbs (.cells #[.int .i64 25, .int .i64 y1, .string y2, .slice D2 q d2] 61))
            cases hin : inB y1 0 1 with
            | false =>
              have HIN := hid hin
              have HF := hid (show usF true (r ++ [⟨b0, b1, b2, b3⟩]) = false from by rw [HQ.out, HP0.out, HP.out, hin]; simp)
              go_wp2_with (first | (go_at_call 72; refine (l1In_any _ _ _ _).mono ?_; rw [HIN.out]; rintro e w' ⟨rfl, rfl⟩))
              go_ret
              exact ⟨ret_bool HF.out.symm, hb2.out⟩
            | true =>
              have HIN := hid hin
              cases hgy : goodF y2 with
              | false =>
                have HF := hid (show usF true (r ++ [⟨b0, b1, b2, b3⟩]) = false from by rw [HQ.out, HP0.out, HP.out, hgy]; simp)
                go_wp2_with (first | (go_at_call 72; refine (l1In_any _ _ _ _).mono ?_; rw [HIN.out]; rintro e w' ⟨rfl, rfl⟩) | (go_at_call 73; refine (GoS _ false HZ.out hgy _).mono ?_; rintro e w3 ⟨rfl, hb3⟩; have HB3 := hid (hb2.out.trans (hb3.mono hb2.out.size))))
                go_ret
                exact ⟨ret_bool HF.out.symm, HB3.out⟩
              | true =>
                by_cases hq0 : q = 0
                · subst hq0
                  have HN := hid (show prmF true false r = prmF true true (r.drop (k + 1)) from by rw [HP0.out, HP.out, hin, hgy]; simp)
                  go_wp2_with (first | (go_at_call 72; refine (l1In_any _ _ _ _).mono ?_; rw [HIN.out]; rintro e w' ⟨rfl, rfl⟩) | (go_at_call 73; refine (GoS _ true HZ.out hgy _).mono ?_; rintro e w3 ⟨rfl, hb3⟩; have HB3 := hid (hb2.out.trans (hb3.mono hb2.out.size)); have bx_3 : w3.cell? ⟨wr.heap.size, 3, none⟩ = some (.slice D2 0 d2) := (hb3.cell (p := ⟨wr.heap.size, 3, none⟩) (by show wr.heap.size < _; simp)).trans (by rw [World.cell?_alloc_new]; rfl)))
                  go_roundw
                  case rel => exact ⟨k + 1, true, by omega, by go_num, rfl, HN, HB3.out⟩
                  case measure => simp [intOf]; omega
                · have HF := hid (show usF true (r ++ [⟨b0, b1, b2, b3⟩]) = false from by rw [HQ.out, HP0.out, HP.out]; simp [hq0])
                  go_wp2_with (first | (go_at_call 72; refine (l1In_any _ _ _ _).mono ?_; rw [HIN.out]; rintro e w' ⟨rfl, rfl⟩) | (go_at_call 73; refine (GoS _ true HZ.out hgy _).mono ?_; rintro e w3 ⟨rfl, hb3⟩; have HB3 := hid (hb2.out.trans (hb3.mono hb2.out.size)); have bx_3 : w3.cell? ⟨wr.heap.size, 3, none⟩ = some (.slice D2 q d2) := (hb3.cell (p := ⟨wr.heap.size, 3, none⟩) (by show wr.heap.size < _; simp)).trans (by rw [World.cell?_alloc_new]; rfl)))
                  go_ret
                  exact ⟨ret_bool HF.out.symm, HB3.out⟩
          | false =>
            have hb2 := hid (hb.alloc hbs (.cells #[.int .i64 25, .int .i64 y1, .string y2, .slice D2 q d2] 61))
            have HF := hid (show usF false (r ++ [⟨b0, b1, b2, b3⟩]) = false from by rw [HQ.out, HP0.out, HP.out]; simp)
            go_wp2_with fail
            go_ret
            exact ⟨ret_bool HF.out.symm, hb2.out⟩
        · by_cases e24 : y0 = 24
          · subst e24
            cases seen with
            | false =>
              have hb2 := hid (hb.alloc hbs (.cells #[.int .i64 24, .int .i64 y1, .string y2, .slice D2 q d2] 61))
              cases hin : inB y1 0 1 with
              | false =>
                have HIN := hid hin
                have HF := hid (show usF use (r ++ [⟨b0, b1, b2, b3⟩]) = false from by rw [HQ.out, HP0.out, HP.out, hin]; simp)
                go_wp2_with (first | (go_at_call 72; refine (l1In_any _ _ _ _).mono ?_; rw [HIN.out]; rintro e w' ⟨rfl, rfl⟩))
                go_ret
                exact ⟨ret_bool HF.out.symm, hb2.out⟩
              | true =>
                have HIN := hid hin
                cases hgy : goodF y2 with
                | false =>
                  have HF := hid (show usF use (r ++ [⟨b0, b1, b2, b3⟩]) = false from by rw [HQ.out, HP0.out, HP.out, hgy]; simp)
                  go_wp2_with (first | (go_at_call 72; refine (l1In_any _ _ _ _).mono ?_; rw [HIN.out]; rintro e w' ⟨rfl, rfl⟩) | (go_at_call 73; refine (GoS _ false HZ.out hgy _).mono ?_; rintro e w3 ⟨rfl, hb3⟩; have HB3 := hid (hb2.out.trans (hb3.mono hb2.out.size))))
                  go_ret
                  exact ⟨ret_bool HF.out.symm, HB3.out⟩
                | true =>
                  by_cases hq0 : q = 0
                  · subst hq0
                    have HN := hid (show prmF use false r = prmF use false (r.drop (k + 1)) from by rw [HP0.out, HP.out, hin, hgy]; simp)
                    go_wp2_with (first | (go_at_call 72; refine (l1In_any _ _ _ _).mono ?_; rw [HIN.out]; rintro e w' ⟨rfl, rfl⟩) | (go_at_call 73; refine (GoS _ true HZ.out hgy _).mono ?_; rintro e w3 ⟨rfl, hb3⟩; have HB3 := hid (hb2.out.trans (hb3.mono hb2.out.size)); have bx_3 : w3.cell? ⟨wr.heap.size, 3, none⟩ = some (.slice D2 0 d2) := (hb3.cell (p := ⟨wr.heap.size, 3, none⟩) (by show wr.heap.size < _; simp)).trans (by rw [World.cell?_alloc_new]; rfl)))
                    go_roundw
                    case rel => exact ⟨k + 1, false, by omega, by go_num, rfl, HN, HB3.out⟩
                    case measure => simp [intOf]; omega
                  · have HF := hid (show usF use (r ++ [⟨b0, b1, b2, b3⟩]) = false from by rw [HQ.out, HP0.out, HP.out]; simp [hq0])
                    go_wp2_with (first | (go_at_call 72; refine (l1In_any _ _ _ _).mono ?_; rw [HIN.out]; rintro e w' ⟨rfl, rfl⟩) | (go_at_call 73; refine (GoS _ true HZ.out hgy _).mono ?_; rintro e w3 ⟨rfl, hb3⟩; have HB3 := hid (hb2.out.trans (hb3.mono hb2.out.size)); have bx_3 : w3.cell? ⟨wr.heap.size, 3, none⟩ = some (.slice D2 q d2) := (hb3.cell (p := ⟨wr.heap.size, 3, none⟩) (by show wr.heap.size < _; simp)).trans (by rw [World.cell?_alloc_new]; rfl)))
                    go_ret
                    exact ⟨ret_bool HF.out.symm, HB3.out⟩
            | true =>
              have hb2 := hid (hb.alloc hbs (.cells #[.int .i64 24, .int .i64 y1, .string y2, .slice D2 q d2] 61))
              have HF := hid (show usF use (r ++ [⟨b0, b1, b2, b3⟩]) = false from by rw [HQ.out, HP0.out, HP.out]; simp)
              go_wp2_with fail
              go_ret
              exact ⟨ret_bool HF.out.symm, hb2.out⟩
          · have hb2 := hid (hb.alloc hbs (.cells #[.int .i64 y0, .int .i64 y1, .string y2, .slice D2 q d2] 61))
            have HF := hid (show usF use (r ++ [⟨b0, b1, b2, b3⟩]) = false from by rw [HQ.out, HP0.out, HP.out, beq_false_of_ne e24, beq_false_of_ne e25]; simp)
            go_wp2_with fail
            go_ret
            exact ⟨ret_bool HF.out.symm, hb2.out⟩
      · obtain rfl : k = m := by omega
        clear hlt
        have h := HP0.out
        rw [List.drop_of_length_le (by rw [HLEN.out]; exact Nat.le_refl _)] at h
        have h2 : prmF use seen [] = true := by cases use <;> cases seen <;> rfl
        rw [h2] at h
        rw [h] at HQ
        have ⟨_, _, _, _⟩ := cell4 hb hblw CC.out.1 CC.out.2.1 CC.out.2.2.1 CC.out.2.2.2
        have CALL := hid (HV.out [.int .i64 b0, .int .i64 b1, .string b2, .slice D b3.length d] _ w.heap.size hbs (ndV ((Q3b.out.up hB0).below hb (Nat.le_refl _))))
        go_wp2_with (go_at_call 79; refine CALL.out.mono ?_; rintro e w2 ⟨rfl, hb3⟩)
        go_ret
        exact ⟨ret_bool (by rw [HQ.out, Bool.true_and]), hb.trans (hb3.mono hb.size)⟩
end Go.Proofs.YtimiieckkdogeaaGreat
