/-
 Parts of the proof: IsK8, IsK9, ScL. Conditions: none.
-/
import Derived.Test.YtkkjnfappndmpaaGreatDoorQFold
import Derived.Test.YtkkjnfappndmpaaGreatDoorQay
import Derived.Test.YtkkjnfappndmpaaGreatDoorQaz
import Derived.Test.YtkkjnfappndmpaaGreatDoorQaa
import Derived.Test.YtkkjnfappndmpaaGreatDoorQax
set_option linter.unusedVariables false
set_option linter.unusedSimpArgs false
namespace Go.Proofs.YtkkjnfappndmpaaGreatDoor
open Go.ChangeShapes Go.WideShapes Go.ChangeAt Go.RowKit Go.Deep Go.Joins
open Go.ChangeMaps (open_string shut_string)
set_option maxRecDepth 100000
theorem top_impl (x : FNode) (hw : x.wt ≤ 1000000000) (us : List Value) (w : World) (B : Nat) (hmx : MaxAt w) (hB0 : B ≤ w.heap.size) (hr : RdVs w B x.c us) :
  Calls Tryz.prog 69 #[.agg us.toArray] w fun e w' => e = .returned (.bool (tpF x)) ∧ Below w.heap.size w w' := by
 obtain ⟨z0, z1, z2, z3⟩ := x
 unfold tpF
 simp only [FNode.kd, FNode.nu, FNode.tx, FNode.kids]
 by_cases h1 : z1 = 0
 ·subst h1
  cases hgo : goodF z2 with
  | false => exact top_g z0 z2 z3 hw hgo us w B hmx hB0 hr
  | true =>
   by_cases n49 : z0 = 49
   ·subst n49
    exact top_49 z2 z3 hw hgo us w B hmx hB0 hr
   by_cases n50 : z0 = 50
   ·subst n50
    exact top_50 z2 z3 hw hgo us w B hmx hB0 hr
   by_cases n51 : z0 = 51
   ·subst n51
    exact top_51 z2 z3 hw hgo us w B hmx hB0 hr
   simp only [n49, n50, n51, ↓reduceIte]
   exact top_o z0 z2 z3 hw hgo n49 n50 n51 us w B hmx hB0 hr
 ·rw [beq_false_of_ne h1]
  exact top_n z0 z1 z2 z3 hw h1 us w B hmx hB0 hr
set_option maxHeartbeats 40000000
open Lib (hid)
theorem small_impl (x : FNode) (hw : x.wt ≤ 1000000000) : SaB 68 x (smF x) := by
 intro us w B hB0 hr
 have HS := hid (szI _ x nr hw)
 have HD := hid (dpI _ x nr hw)
 have EX := hid (show smF x = (decide (szN x ≤ 600) && decide (dpN x ≤ 30)) from rfl)
 obtain ⟨N, hN⟩ : ∃ N, szN x = N := ⟨_, rfl⟩
 obtain ⟨P, hP⟩ : ∃ P, dpN x = P := ⟨_, rfl⟩
 rw [hN, hP] at EX
 obtain ⟨z0, z1, z2, z3⟩ := x
 obtain ⟨A3, c3, rfl, r3⟩ := hr.node
 rw [FNode.wt_eq] at hw
 have hz : z2.size ≤ 9223372036854775807 := qaa
 have hl : z3.length ≤ 9223372036854775807 := qaa
 have HR := hid r3
 have HB := hbA w z0 z1 z2 (.slice A3 z3.length c3)
 have CALL := hid (HS.out [.int .i64 z0, .int .i64 z1, .string z2, .slice A3 z3.length c3] _ w.heap.size HB.out.size (ndV ((HR.out.up hB0).below HB.out nr)))
 rw [hN] at CALL
 unfold DpI at HD
 rw [hP] at HD
 clear hr r3 hw hN hP HS
 have EX2 := hid (show (decide (N ≤ 600) && decide (P ≤ 30)) = smF ⟨z0, z1, z2, z3⟩ from EX.out.symm)
 clear EX
 by_cases hN6 : N ≤ 600
 ·have hN7 : (N : Int) ≤ 600 := qaa
  rw [decide_eq_true hN6, Bool.true_and] at EX2
  by_cases hP3 : P ≤ 30
  ·have hP4 : decide ((P : Int) ≤ 30) = true := by simp; omega
   rw [decide_eq_true hP3] at EX2
   exact zz67
  ·have hP4 : decide ((P : Int) ≤ 30) = false := by simp; omega
   rw [decide_eq_false hP3] at EX2
   exact zz67
 ·have hN7 : ¬ (N : Int) ≤ 600 := qaa
  rw [decide_eq_false hN6, Bool.false_and] at EX2
  go_enter Tryz.func68, Tryz.ntmps68
  go_wp2_with (first | (go_at_call 102; refine CALL.out.mono ?_; rintro e w3 ⟨rfl, hb3⟩; have HB3 := hid (HB.out.trans (hb3.mono HB.out.size)); have ⟨bx_0, bx_1, bx_2, bx_3⟩ := box4 hb3) | (go_at_call 103; refine (HD.out [.int .i64 z0, .int .i64 z1, .string z2, .slice A3 z3.length c3] _ w.heap.size HB3.out.size (ndV ((HR.out.up hB0).below HB3.out nr))).mono ?_; rintro e w4 ⟨rfl, hb4⟩))
  all_goals (go_ret; exact ⟨ret_bool EX2.out, HB3.out⟩)
theorem topF_eq (x : FNode) : topF x = (tpF x || stF x) := by
 obtain ⟨k, n, t, ks⟩ := x
 unfold topF tpF
 show (if k = 49 then _ else if k = 50 ∨ k = 51 then _ else _) = _
 simp only [FNode.kd, FNode.nu, FNode.tx, FNode.kids]
 by_cases h49 : k = 49
 ·subst h49
  rw [stF_mk, show stK 49 ks = false from rfl]
  exact zz148
 by_cases h50 : k = 50
 ·subst h50
  rw [stF_mk, show stK 50 ks = false from rfl, clsP_eq _ ks 0 true 0 (fun _ => ⟨rfl, rfl⟩) qae qae (Or.inl rfl)]
  exact zz148
 by_cases h51 : k = 51
 ·subst h51
  rw [stF_mk, show stK 51 ks = false from rfl, clsP_eq _ ks 0 true 0 (fun _ => ⟨rfl, rfl⟩) qae qae (Or.inl rfl)]
  exact zz148
 simp only [h49, h50, h51, ↓reduceIte, Bool.and_false, Bool.false_or, or_self]
theorem script_impl (x : FNode) (hw : x.wt ≤ 1000000000) (us : List Value) (w : World) (B : Nat) (hmx : MaxAt w) (hB0 : B ≤ w.heap.size) (hr : RdVs w B x.c us) :
  Calls Tryz.prog 41 #[.agg us.toArray] w fun e w' => e = .returned (.bool (scF x)) ∧ Below w.heap.size w w' := by
 have HSM := hid (small_impl x hw)
 obtain ⟨z0, z1, z2, z3⟩ := x
 have EX := hid (show scF ⟨z0, z1, z2, z3⟩ = (smF ⟨z0, z1, z2, z3⟩ && (z0 == 56 && (z1 == 0 && (emT z2 && z3.all topF)))) from rfl)
 have HW : Hid (∀ x, x ∈ z3 → x.wt ≤ 1000000000) := hid fun x hx => by have := (kid_wt (x := ⟨z0, z1, z2, z3⟩) (y := x) hx).1; omega
 obtain ⟨A3, c3, rfl, r3⟩ := hr.node
 rw [FNode.wt_eq] at hw
 have hz : z2.size ≤ 9223372036854775807 := qaa
 have hl : z3.length ≤ 9223372036854775807 := qaa
 have HR := hid r3
 have HB := hbA w z0 z1 z2 (.slice A3 z3.length c3)
 have CALL := hid (HSM.out [.int .i64 z0, .int .i64 z1, .string z2, .slice A3 z3.length c3] _ w.heap.size HB.out.size (ndV ((HR.out.up hB0).below HB.out nr)))
 have HC := hid r3
 clear hr r3 hw HSM
 by_cases h56 : z0 = 56
 ·by_cases h0 : z1 = 0
  ·by_cases ht : z2.toList = []
   ·cases hs : smF ⟨z0, z1, z2, z3⟩ with
    | false =>
     rw [hs] at CALL EX
     subst h56
     subst h0
     go_enter Tryz.func41, Tryz.ntmps41
     go_wp2_with ((go_at_call 68; refine CALL.out.mono ?_; rintro e w3 ⟨rfl, hb3⟩; have HB3 := hid (HB.out.trans (hb3.mono HB.out.size)); have ⟨bx_0, bx_1, bx_2, bx_3⟩ := box4 hb3))
     all_goals (go_ret; exact ⟨ret_bool (by rw [EX.out]; rfl), HB3.out⟩)
    | true =>
     rw [hs] at CALL EX
     subst h56
     subst h0
     have EX2 := hid (show scF ⟨56, 0, z2, z3⟩ = z3.all topF from by rw [EX.out, emT_t ht]; rfl)
     clear EX
     go_enter Tryz.func41, Tryz.ntmps41
     go_wp2_with ((go_at_call 68; refine CALL.out.mono ?_; rintro e w3 ⟨rfl, hb3⟩; have HB3 := hid (HB.out.trans (hb3.mono HB.out.size)); have ⟨bx_0, bx_1, bx_2, bx_3⟩ := box4 hb3))
     go_loopw [26] (fun i wr => ∃ k : Nat, k ≤ z3.length ∧ i = .int .i64 k ∧ Hid ((z3.take k).all topF = true) ∧ Below w.heap.size w wr) (fun i _ => z3.length - (intOf i).toNat)
     case atStart => exact ⟨0, Nat.zero_le _, rfl, hid rfl, HB3.out⟩
     case round =>
      obtain ⟨k, hk, rfl, HA, hb⟩ := hrel
      have hbs := hb.size
      by_cases hlt : k < z3.length
      ·skip
       obtain ⟨x, hx⟩ : ∃ x, z3[k]? = some x := ⟨_, List.getElem?_eq_getElem hlt⟩
       obtain ⟨bc, offc, rfl, hblc, hcc⟩ := RdC.at_ FNode.len HC.out hx
       have HX := hid hx
       have HM := hid (List.mem_of_getElem? hx)
       clear hx
       obtain ⟨y0, y1, y2, y3⟩ := x
       obtain ⟨D, d, c_0, c_1, c_2, c_3, q3⟩ := opN hb qaa hcc (offc + k * 4) (offc + k * 4 + 1) (offc + k * 4 + 2) (offc + k * 4 + 3) qaa
       have Q3 := hid q3
       clear hcc q3
       have hyw := HW.out _ HM.out
       have HST := hid (st_impl ⟨y0, y1, y2, y3⟩ hyw)
       have hb2 := hid (hb.alloc hbs (.cells #[.int .i64 y0, .int .i64 y1, .string y2, .slice D y3.length d] 44))
       have CALLT := hid (top_impl ⟨y0, y1, y2, y3⟩ hyw [.int .i64 y0, .int .i64 y1, .string y2, .slice D y3.length d] _ w.heap.size (hmx.below hb2.out) hb2.out.size (ndV ((Q3.out.up hB0).below hb2.out nr)))
       have HTE := hid (topF_eq ⟨y0, y1, y2, y3⟩)
       clear hyw
       cases htp : tpF ⟨y0, y1, y2, y3⟩ with
       | true =>
        rw [htp] at CALLT HTE
        go_wp2_with ((go_at_call 69; refine CALLT.out.mono ?_; rintro e w5 ⟨rfl, hb5⟩; have HB5 := hid (hb2.out.trans (hb5.mono hb2.out.size)); have by_0 : w5.cell? ⟨wr.heap.size, 0, none⟩ = some (.int .i64 y0) := (hb5.cell (p := ⟨wr.heap.size, 0, none⟩) qav).trans (by rw [World.cell?_alloc_new]; rfl); have by_1 : w5.cell? ⟨wr.heap.size, 1, none⟩ = some (.int .i64 y1) := (hb5.cell (p := ⟨wr.heap.size, 1, none⟩) qav).trans (by rw [World.cell?_alloc_new]; rfl); have by_2 : w5.cell? ⟨wr.heap.size, 2, none⟩ = some (.string y2) := (hb5.cell (p := ⟨wr.heap.size, 2, none⟩) qav).trans (by rw [World.cell?_alloc_new]; rfl); have by_3 : w5.cell? ⟨wr.heap.size, 3, none⟩ = some (.slice D y3.length d) := (hb5.cell (p := ⟨wr.heap.size, 3, none⟩) qav).trans (by rw [World.cell?_alloc_new]; rfl)))
        go_roundw
        case rel => exact ⟨k + 1, by omega, by go_num, hid (all_on HX.out HA.out HTE.out), HB5.out⟩
        case measure => simp [intOf]; omega
       | false =>
        rw [htp] at CALLT HTE
        unfold StI at HST
        cases hst : stF ⟨y0, y1, y2, y3⟩ with
        | true =>
         rw [hst] at HST HTE
         go_wp2_with (first | (go_at_call 69; refine CALLT.out.mono ?_; rintro e w5 ⟨rfl, hb5⟩; have HB5 := hid (hb2.out.trans (hb5.mono hb2.out.size)); have by_0 : w5.cell? ⟨wr.heap.size, 0, none⟩ = some (.int .i64 y0) := (hb5.cell (p := ⟨wr.heap.size, 0, none⟩) qav).trans (by rw [World.cell?_alloc_new]; rfl); have by_1 : w5.cell? ⟨wr.heap.size, 1, none⟩ = some (.int .i64 y1) := (hb5.cell (p := ⟨wr.heap.size, 1, none⟩) qav).trans (by rw [World.cell?_alloc_new]; rfl); have by_2 : w5.cell? ⟨wr.heap.size, 2, none⟩ = some (.string y2) := (hb5.cell (p := ⟨wr.heap.size, 2, none⟩) qav).trans (by rw [World.cell?_alloc_new]; rfl); have by_3 : w5.cell? ⟨wr.heap.size, 3, none⟩ = some (.slice D y3.length d) := (hb5.cell (p := ⟨wr.heap.size, 3, none⟩) qav).trans (by rw [World.cell?_alloc_new]; rfl)) | (go_at_call 70; refine (HST.out [.int .i64 y0, .int .i64 y1, .string y2, .slice D y3.length d] _ w.heap.size (hmx.below HB5.out) HB5.out.size (ndV ((Q3.out.up hB0).below HB5.out nr))).mono ?_; rintro e w6 ⟨rfl, hb6⟩))
         go_roundw
         case rel => exact ⟨k + 1, by omega, by go_num, hid (all_on HX.out HA.out HTE.out), HB5.out.trans (hb6.mono HB5.out.size)⟩
         case measure => simp [intOf]; omega
        | false =>
         rw [hst] at HST HTE
         go_wp2_with (first | (go_at_call 69; refine CALLT.out.mono ?_; rintro e w5 ⟨rfl, hb5⟩; have HB5 := hid (hb2.out.trans (hb5.mono hb2.out.size)); have by_0 : w5.cell? ⟨wr.heap.size, 0, none⟩ = some (.int .i64 y0) := (hb5.cell (p := ⟨wr.heap.size, 0, none⟩) qav).trans (by rw [World.cell?_alloc_new]; rfl); have by_1 : w5.cell? ⟨wr.heap.size, 1, none⟩ = some (.int .i64 y1) := (hb5.cell (p := ⟨wr.heap.size, 1, none⟩) qav).trans (by rw [World.cell?_alloc_new]; rfl); have by_2 : w5.cell? ⟨wr.heap.size, 2, none⟩ = some (.string y2) := (hb5.cell (p := ⟨wr.heap.size, 2, none⟩) qav).trans (by rw [World.cell?_alloc_new]; rfl); have by_3 : w5.cell? ⟨wr.heap.size, 3, none⟩ = some (.slice D y3.length d) := (hb5.cell (p := ⟨wr.heap.size, 3, none⟩) qav).trans (by rw [World.cell?_alloc_new]; rfl)) | (go_at_call 70; refine (HST.out [.int .i64 y0, .int .i64 y1, .string y2, .slice D y3.length d] _ w.heap.size (hmx.below HB5.out) HB5.out.size (ndV ((Q3.out.up hB0).below HB5.out nr))).mono ?_; rintro e w6 ⟨rfl, hb6⟩))
         go_ret
         exact ⟨ret_bool qa0, HB5.out.trans (hb6.mono HB5.out.size)⟩
      ·exact zz70
   ·rw [emT_f ht, Bool.false_and, Bool.and_false, Bool.and_false, Bool.and_false] at EX
    clear CALL
    subst h56
    subst h0
    go_enter Tryz.func41, Tryz.ntmps41
    exact zz105
  ·rw [beq_false_of_ne h0, Bool.false_and, Bool.and_false, Bool.and_false] at EX
   clear CALL
   subst h56
   go_enter Tryz.func41, Tryz.ntmps41
   exact zz105
 ·rw [beq_false_of_ne h56, Bool.false_and, Bool.and_false] at EX
  clear CALL
  go_enter Tryz.func41, Tryz.ntmps41
  exact zz105
theorem chI_all : ∀ (N : Nat) (x : FNode), szN x ≤ N → x.wt ≤ 1000000000 → tkN x → ChI x
 | 0, x, h, _, _ => absurd (szN_pos x) qaa
 | N + 1, ⟨k, z1, z2, z3⟩, h, hw, ht => by
  rw [tkN] at ht
  exact chI_of k z1 z2 z3 hw ht.1 fun y hy => chI_all N y qau (by have := (kid_wt (x := ⟨k, z1, z2, z3⟩) (y := y) hy).1; omega) (tkL_mem z3 ht.2 y hy)
theorem csF_hit (F : Nat → Bool) (k : Nat) (h1 : 1 ≤ k) (h5 : k ≤ 5) (hn : ∀ j, 1 ≤ j → j < k → F j = false) (hk : F k = true) : csF F = (k : Int) := by
 unfold csF
 have H : k = 1 ∨ k = 2 ∨ k = 3 ∨ k = 4 ∨ k = 5 := qaa
 rcases H with rfl | rfl | rfl | rfl | rfl
 ·rw [hk]; rfl
 ·rw [hk, hn 1 qae qae]; rfl
 ·rw [hk, hn 1 qae qae, hn 2 qae qae]; rfl
 ·rw [hk, hn 1 qae qae, hn 2 qae qae, hn 3 qae qae]; rfl
 ·rw [hk, hn 1 qae qae, hn 2 qae qae, hn 3 qae qae, hn 4 qae qae]; rfl
theorem csF_none (F : Nat → Bool) (hn : ∀ j, 1 ≤ j → j < 6 → F j = false) : csF F = 0 := by
 unfold csF
 rw [hn 1 qae qae, hn 2 qae qae, hn 3 qae qae, hn 4 qae qae, hn 5 qae qae]
 rfl
theorem blk_gc {w : World} {g : Nat} {b : Nat → Bool} (h : Blk w g 4 (cb b)) (i : Nat) (hi : i ≤ 5) : w.cell? ⟨g, i, none⟩ = some (.bool (b i)) := by
 refine (h.cell i).trans ?_
 exact zz120
theorem mk6 (w : World) : (Instr.makeSlice 73 (.int .i64 6) (.int .i64 6)).run Tryz.prog w = .ok (.slice (some ⟨w.heap.size, 0, none⟩) 6 6) (w.alloc (.cells (cb (fun _ => false)) 4)) := by
 have h := make_law (P := Tryz.prog) 73 4 #[.bool false] 1 1 Tryz.underlying73 qab 6 qae qae w
 rw [show madeCells #[Value.bool false] (6 * 1) = cb (fun _ => false) from by first | kernel_rfl | rfl | (simp [madeCells, cb]; done)] at h
 exact h
theorem check_impl (x : FNode) (hw : x.wt ≤ 1000000000) (htk : scF x = true → tkN x) (us : List Value) (w : World) (B : Nat) (hmx : MaxAt w) (hB0 : B ≤ w.heap.size) (hr : RdVs w B x.c us) :
  Calls Tryz.prog 21 #[.agg us.toArray] w fun e w' => e = .returned (.int .i64 (csI x)) ∧ Below w.heap.size w w' := by
 have HSC := hid (script_impl x hw)
 have HCH := hid (fun h => chI_all _ x nr hw (htk h))
 have EX := hid (show csI x = if scF x = true then csF (fun r => brI r false false x) else 5 from rfl)
 obtain ⟨z0, z1, z2, z3⟩ := x
 obtain ⟨A3, c3, rfl, r3⟩ := hr.node
 rw [FNode.wt_eq] at hw
 have hz : z2.size ≤ 9223372036854775807 := qaa
 have hl : z3.length ≤ 9223372036854775807 := qaa
 have HR := hid r3
 have HB := hbA w z0 z1 z2 (.slice A3 z3.length c3)
 have CALL := hid (HSC.out [.int .i64 z0, .int .i64 z1, .string z2, .slice A3 z3.length c3] _ w.heap.size (hmx.below HB.out) HB.out.size (ndV ((HR.out.up hB0).below HB.out nr)))
 clear hr r3 hw HSC htk
 cases hs : scF ⟨z0, z1, z2, z3⟩ with
 | false =>
  rw [hs] at CALL EX
  go_enter Tryz.func21, Tryz.ntmps21
  go_wp2_with (go_at_call 41; refine CALL.out.mono ?_; rintro e w3 ⟨rfl, hb3⟩; have HB3 := hid (HB.out.trans (hb3.mono HB.out.size)))
  go_ret
  exact ⟨by rw [EX.out]; rfl, HB3.out⟩
 | true =>
  rw [hs, if_pos rfl] at EX
  rw [hs] at CALL
  have HC2 := hid (HCH.out hs)
  clear HCH
  obtain ⟨F, hF⟩ : ∃ F : Nat → Bool, (fun r => brI r false false ⟨z0, z1, z2, z3⟩) = F := ⟨_, rfl⟩
  rw [hF] at EX
  have HFF := hid (show ∀ r, brI r false false ⟨z0, z1, z2, z3⟩ = F r from fun r => by rw [← hF])
  clear hF
  have hmk := mk6
  go_enter Tryz.func21, Tryz.ntmps21
  go_upto_region 4 with (go_at_call 41; refine CALL.out.mono ?_; rintro e w3 ⟨rfl, hb3⟩; have HB3 := hid (HB.out.trans (hb3.mono HB.out.size)); have ⟨bx_0, bx_1, bx_2, bx_3⟩ := box4 hb3)
  clear hmk
  have k4 := hid ((Below.refl w3.heap.size w3).alloc nr (.cells (cb (fun _ => false)) 4))
  have HB4 := hid (HB3.out.trans (k4.out.mono HB3.out.size))
  have BK4 := hid (Blk.new w3 4 (cb (fun _ => false)))
  have hg4 : w3.heap.size < (w3.alloc (.cells (cb (fun _ => false)) 4)).heap.size := by simp
  have hw3 : w.heap.size < w3.heap.size := Nat.lt_of_lt_of_le qag hb3.size
  have ⟨_, _, _, _⟩ := cell4 k4.out hw3 bx_0 bx_1 bx_2 bx_3
  obtain ⟨g, hgg⟩ : ∃ g, w3.heap.size = g := ⟨_, rfl⟩
  rw [hgg] at BK4 hg4
  have HGG := hid hgg
  go_upto_region 5 with (go_at_call 42; refine (HC2.out [.int .i64 z0, .int .i64 z1, .string z2, .slice A3 z3.length c3] _ w.heap.size g (fun _ => false) false false (by rw [← HGG.out]; exact Nat.le_of_lt hw3) hg4 (ndV ((HR.out.up hB0).below HB4.out nr)) BK4.out).mono ?_; rintro e w5 ⟨rfl, ho5, bk5⟩)
  have BK5 : Blk w5 g 4 (cb F) := by rw [cb_ext (f := F) (g := fun r => (false || brI r false false ⟨z0, z1, z2, z3⟩)) (fun r hr => by rw [Bool.false_or]; exact (HFF.out r).symm)]; exact bk5
  have HB5 := hid (HB4.out.trans (ho5.below (B := w.heap.size) qaa HB4.out.size))
  go_wp2_with fail
  go_loopw [4] (fun i wr => ∃ k : Nat, 1 ≤ k ∧ k ≤ 6 ∧ i = .int .i64 k ∧ Hid (∀ j, 1 ≤ j → j < k → F j = false) ∧ wr = w5) (fun i _ => 6 - (intOf i).toNat)
  case atStart => exact ⟨1, by decide, by decide, rfl, hid (fun j h1 h2 => absurd h2 qaa), rfl⟩
  case round =>
   obtain ⟨k, hk1, hk6, rfl, HA, rfl⟩ := hrel
   by_cases hk5 : k ≤ 5
   ·have cg := blk_gc BK5 k hk5
    cases hv : F k with
    | true =>
     rw [hv] at cg
     have HF := hid (csF_hit F k hk1 hk5 HA.out hv)
     go_wp2_with fail
     go_ret
     exact ⟨by rw [EX.out, HF.out]; rfl, HB5.out⟩
    | false =>
     rw [hv] at cg
     have HV := hid hv
     clear hv
     go_wp2_with fail
     go_roundw
     case rel => exact ⟨k + 1, by omega, by omega, by go_num, hid (fun j h1 h2 => by rcases Nat.lt_succ_iff_lt_or_eq.mp h2 with h | h; exact HA.out j h1 h; rw [h]; exact HV.out), by trivial⟩
     case measure => simp [intOf]; omega
   ·obtain rfl : k = 6 := qaa
    have HF := hid (csF_none F HA.out)
    go_wp2_with fail
    go_ret
    exact ⟨by rw [EX.out, HF.out]; rfl, HB5.out⟩
end Go.Proofs.YtkkjnfappndmpaaGreatDoor
