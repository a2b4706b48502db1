/-
  Parts of the proof: IsU3. Conditions: none.
-/
import Derived.Test.YtimiieckkdogeaaGreatQGBaseNd
import Derived.Test.YtimiieckkdogeaaGreatQIsU2
set_option linter.unusedVariables false
set_option linter.unusedSimpArgs false
namespace Go.Proofs.YtimiieckkdogeaaGreat
set_option maxHeartbeats 40000000
open Lib (hid)
open Go.ChangeShapes Go.WideShapes Go.ChangeAt Go.RowKit Go.Deep Go.Joins
open Go.ChangeMaps (open_string shut_string)
set_option maxRecDepth 100000
theorem stS_46 (z1 : Int) (z2 : ByteArray) (z3 : List FNode) (hw : (FNode.mk 46 z1 z2 z3).wt ≤ 9000000000) (hn : fN 46 z1 = true) (ht : fT 46 z2 = true) (hA : EaS z3) : SaB 44 (FNode.mk 46 z1 z2 z3) (decide (1 ≤ z3.length ∧ z3.length ≤ 2) && (z3.all exF && (z3.length == 1 || hd4 z3))) := by
  intro us w B hB0 hr
  have FD := fd_spec _ hw
  obtain ⟨A3, c3, rfl, r3⟩ := hr.node
  rw [FNode.wt_eq] at hw
  have hz : z2.size ≤ 9223372036854775807 := by omega
  have hl : z3.length ≤ 9000000000 := by omega
  have FDC := fdC FD hn ht hB0 r3
  clear FD
  have hpos3 := r3
  obtain ⟨m, hm⟩ : ∃ m, z3.length = m := ⟨_, rfl⟩
  try rw [hm] at hl r3 FDC ⊢
  have HR := hid r3
  have HB := hbA w 46 z1 z2 (.slice A3 m c3)
  clear hr r3 hpos3
  unfold EaS at hA
  rw [hm] at hA
  have HA := hid hA
  clear hA
  by_cases e1 : m = 1
  · subst e1
    rw [show (decide (1 ≤ 1 ∧ 1 ≤ 2) && (z3.all exF && (1 == 1 || hd4 z3))) = z3.all exF from by simp]
    clear hm hw
    go_enter Tryz.func44, Tryz.ntmps44
    go_wp2_with (first | (go_at_call 43; refine FDC.out.mono ?_; rintro e w3 ⟨rfl, hb3⟩; have HB3 := hid (HB.out.trans (hb3.mono HB.out.size)); have ⟨bx_w3_0, bx_w3_1, bx_w3_2, bx_w3_3⟩ := box4 hb3; have sz_w3 := szA hb3) | (go_at_call 72; refine (l1In_any _ _ _ _).mono ?_; rintro e w' ⟨rfl, rfl⟩) | (go_at_call 77; refine (HA.out _ _ w.heap.size HB3.out.size ((HR.out.up hB0).below HB3.out (Nat.le_refl _))).mono ?_; rintro e w4 ⟨rfl, hbe⟩; have HB4 := hid (HB3.out.trans (hbe.mono HB3.out.size))))
    all_goals (first | (go_ret; exact ⟨ret_bool (by exact fZ), Hid.out (by assumption)⟩))
  · by_cases e2 : m = 2
    · subst e2
      obtain ⟨⟨y0, y1, y2, y3⟩, yb, rfl⟩ := two_of hm
      obtain ⟨bcy, offcy, Ey, hblcy, hcc⟩ := RdC.at_ (l := [FNode.mk y0 y1 y2 y3, yb]) FNode.len HR.out (i := 0) (x := FNode.mk y0 y1 y2 y3) rfl
      obtain ⟨Dy, dy, cy_0, cy_1, cy_2, cy_3, q3⟩ := opN (Below.refl w.heap.size w) (by omega) hcc (offcy) (offcy + 1) (offcy + 2) (offcy + 3) (by omega)
      have Qy := hid q3
      clear hcc q3
      have hbl : bcy < w.heap.size := Nat.lt_of_lt_of_le hblcy hB0
      subst Ey
      rw [show (decide (1 ≤ 2 ∧ 2 ≤ 2) && ([FNode.mk y0 y1 y2 y3, yb].all exF && (2 == 1 || hd4 [FNode.mk y0 y1 y2 y3, yb]))) = ([FNode.mk y0 y1 y2 y3, yb].all exF && y0 == 4) from by simp [hd4, FNode.kd]]
      clear hm hw
      cases hv : [FNode.mk y0 y1 y2 y3, yb].all exF with
      | false =>
        rw [hv] at HA
        go_enter Tryz.func44, Tryz.ntmps44
        go_wp2_with (first | (go_at_call 43; refine FDC.out.mono ?_; rintro e w3 ⟨rfl, hb3⟩; have HB3 := hid (HB.out.trans (hb3.mono HB.out.size)); have ⟨bx_w3_0, bx_w3_1, bx_w3_2, bx_w3_3⟩ := box4 hb3; have sz_w3 := szA hb3) | (go_at_call 72; refine (l1In_any _ _ _ _).mono ?_; rintro e w' ⟨rfl, rfl⟩) | (go_at_call 77; refine (HA.out _ _ w.heap.size HB3.out.size ((HR.out.up hB0).below HB3.out (Nat.le_refl _))).mono ?_; rintro e w4 ⟨rfl, hbe⟩; have HB4 := hid (HB3.out.trans (hbe.mono HB3.out.size)); have ⟨bx_w4_0, bx_w4_1, bx_w4_2, bx_w4_3⟩ := cell4 hbe sz_w3 bx_w3_0 bx_w3_1 bx_w3_2 bx_w3_3; have sz_w4 := Nat.lt_of_lt_of_le sz_w3 hbe.size))
        all_goals (first | (go_ret; exact ⟨ret_bool (by exact fZ), Hid.out (by assumption)⟩))
      | true =>
        rw [hv] at HA
        go_enter Tryz.func44, Tryz.ntmps44
        go_wp2_with (first | (go_at_call 43; refine FDC.out.mono ?_; rintro e w3 ⟨rfl, hb3⟩; have HB3 := hid (HB.out.trans (hb3.mono HB.out.size)); have ⟨bx_w3_0, bx_w3_1, bx_w3_2, bx_w3_3⟩ := box4 hb3; have sz_w3 := szA hb3) | (go_at_call 72; refine (l1In_any _ _ _ _).mono ?_; rintro e w' ⟨rfl, rfl⟩) | (go_at_call 77; refine (HA.out _ _ w.heap.size HB3.out.size ((HR.out.up hB0).below HB3.out (Nat.le_refl _))).mono ?_; rintro e w4 ⟨rfl, hbe⟩; have HB4 := hid (HB3.out.trans (hbe.mono HB3.out.size)); have ⟨bx_w4_0, bx_w4_1, bx_w4_2, bx_w4_3⟩ := cell4 hbe sz_w3 bx_w3_0 bx_w3_1 bx_w3_2 bx_w3_3; have sz_w4 := Nat.lt_of_lt_of_le sz_w3 hbe.size; have ⟨_, _, _, _⟩ := cell4 HB4.out hbl cy_0 cy_1 cy_2 cy_3))
        all_goals (first | (go_ret; exact ⟨ret_bool (by exact fZ), Hid.out (by assumption)⟩))
    · rw [show decide (1 ≤ m ∧ m ≤ 2) = false from decide_eq_false (by omega)]
      have HIN := hid (show inB (m : Int) 1 2 = false from inB_f (by omega))
      clear hm hw
      go_enter Tryz.func44, Tryz.ntmps44
      go_wp2_with (first | (go_at_call 43; refine FDC.out.mono ?_; rintro e w3 ⟨rfl, hb3⟩; have HB3 := hid (HB.out.trans (hb3.mono HB.out.size)); have ⟨bx_w3_0, bx_w3_1, bx_w3_2, bx_w3_3⟩ := box4 hb3; have sz_w3 := szA hb3) | (go_at_call 72; refine (l1In_any _ _ _ _).mono ?_; rw [HIN.out]; rintro e w' ⟨rfl, rfl⟩))
      all_goals (first | (go_ret; exact ⟨ret_bool (by exact fZ), Hid.out (by assumption)⟩))
theorem stS_48 (z1 : Int) (z2 : ByteArray) (z3 : List FNode) (hw : (FNode.mk 48 z1 z2 z3).wt ≤ 9000000000) (hn : fN 48 z1 = true) (ht : fT 48 z2 = true) (hb48 : BkS ⟨48, z1, z2, z3⟩) : SaB 44 (FNode.mk 48 z1 z2 z3) (z3.all stF) := by
  intro us w B hB0 hr
  have FD := fd_spec _ hw
  obtain ⟨A3, c3, rfl, r3⟩ := hr.node
  rw [FNode.wt_eq] at hw
  have hz : z2.size ≤ 9223372036854775807 := by omega
  have hl : z3.length ≤ 9000000000 := by omega
  have HB0 : Below w.heap.size w (w.alloc (.cells #[.int .i64 48, .int .i64 z1, .string z2, .slice A3 z3.length c3] 61)) := (Below.refl _ w).alloc (Nat.le_refl _) _
  have FDC := hid (FD [.int .i64 48, .int .i64 z1, .string z2, .slice A3 z3.length c3] _ w.heap.size HB0.size (ndV ((r3.up hB0).below HB0 (Nat.le_refl _))))
  simp only [FNode.kd, FNode.nu, FNode.tx] at FDC
  rw [hn, ht] at FDC
  have EV : blF ⟨48, z1, z2, z3⟩ = z3.all stF := by
    have h1 : (z1 == 0) = true := hn
    have h2 : emT z2 = true := ht
    rw [blF_mk, h1, h2]
    rfl
  unfold BkS at hb48
  rw [EV] at hb48
  have HBK := hid hb48
  have HRZ := hid r3
  obtain ⟨ball, hball⟩ : ∃ b, z3.all stF = b := ⟨_, rfl⟩
  rw [hball] at HBK
  rw [hball]
  clear FD HB0 hb48 EV
  have hpos3 := r3
  obtain ⟨m, hm⟩ : ∃ m, z3.length = m := ⟨_, rfl⟩
  rw [hm] at hl r3 FDC ⊢
  have HR := hid r3
  have HB := hbA w 48 z1 z2 (.slice A3 m c3)
  clear hr r3 hpos3
  have HRW : Hid (RdC w B (.s 61 4 z3.length (FNode.flat z3)) (.slice A3 m c3)) := hid (by rw [hm]; exact HR.out)
  clear HRZ
  clear hm hw
  go_enter Tryz.func44, Tryz.ntmps44
  go_wp2_with (first | (go_at_call 43; refine FDC.out.mono ?_; rintro e w3 ⟨rfl, hb3⟩; have HB3 := hid (HB.out.trans (hb3.mono HB.out.size)); have ⟨bx_w3_0, bx_w3_1, bx_w3_2, bx_w3_3⟩ := box4 hb3; have sz_w3 := szA hb3) | (go_at_call 79; refine (HBK.out [.int .i64 48, .int .i64 z1, .string z2, .slice A3 m c3] _ w.heap.size HB3.out.size (ndV (HRW.out.up hB0 |>.below HB3.out (Nat.le_refl _)))).mono ?_; rintro e w4 ⟨rfl, hb4⟩; have HB4 := hid (HB3.out.trans (hb4.mono HB3.out.size))))
  all_goals (first | (go_ret; exact ⟨ret_bool (by exact fZ), Hid.out (by assumption)⟩))
theorem stS_41 (z1 : Int) (z2 : ByteArray) (z3 : List FNode) (hw : (FNode.mk 41 z1 z2 z3).wt ≤ 9000000000) (hn : fN 41 z1 = true) (ht : fT 41 z2 = true) (hE : ∀ x, x ∈ z3 → ExS x) : SaB 44 (FNode.mk 41 z1 z2 z3) (z3.length == 1 && (hdT z3 && z3.all exF)) := by
  intro us w B hB0 hr
  have FD := fd_spec _ hw
  obtain ⟨A3, c3, rfl, r3⟩ := hr.node
  rw [FNode.wt_eq] at hw
  have hz : z2.size ≤ 9223372036854775807 := by omega
  have hl : z3.length ≤ 9000000000 := by omega
  have FDC := fdC FD hn ht hB0 r3
  clear FD
  have hpos3 := r3
  obtain ⟨m, hm⟩ : ∃ m, z3.length = m := ⟨_, rfl⟩
  try rw [hm] at hl r3 FDC ⊢
  have HR := hid r3
  have HB := hbA w 41 z1 z2 (.slice A3 m c3)
  clear hr r3 hpos3
  by_cases e1m : m = 1
  · subst e1m
    obtain ⟨⟨y0, y1, y2, y3⟩, rfl⟩ := List.length_eq_one_iff.mp hm
    have Cy := hid (hE ⟨y0, y1, y2, y3⟩ (by simp))
    have hyy : (FNode.mk y0 y1 y2 y3).wt ≤ 9000000000 := by have := FNode.wts_at [FNode.mk y0 y1 y2 y3] _ (List.mem_singleton.mpr rfl); omega
    unfold ExS at Cy
    obtain ⟨bcy, offcy, Ey, hblcy, hcc⟩ := RdC.at_ (l := [FNode.mk y0 y1 y2 y3]) FNode.len HR.out (i := 0) (x := FNode.mk y0 y1 y2 y3) rfl
    obtain ⟨Dy, dy, cy_0, cy_1, cy_2, cy_3, q3⟩ := opN (Below.refl w.heap.size w) (by omega) hcc (offcy) (offcy + 1) (offcy + 2) (offcy + 3) (by omega)
    have Qy := hid q3
    clear hcc q3
    have hbl : bcy < w.heap.size := Nat.lt_of_lt_of_le hblcy hB0
    subst Ey
    clear hm hw hE
    rw [show (1 == 1 && (hdT [FNode.mk y0 y1 y2 y3] && [FNode.mk y0 y1 y2 y3].all exF)) = (tgN ⟨y0, y1, y2, y3⟩ && exF ⟨y0, y1, y2, y3⟩) from by simp [hdT]]
    cases hvHT : tgN ⟨y0, y1, y2, y3⟩ with
    | false =>
      have HT := hid hvHT
      go_enter Tryz.func44, Tryz.ntmps44
      go_wp2_with (first | (go_at_call 43; refine FDC.out.mono ?_; rintro e w3 ⟨rfl, hb3⟩; have HB3 := hid (HB.out.trans (hb3.mono HB.out.size)); have ⟨bx_w3_0, bx_w3_1, bx_w3_2, bx_w3_3⟩ := box4 hb3; have sz_w3 := szA hb3; have ⟨k_w3_y0, k_w3_y1, k_w3_y2, k_w3_y3⟩ := cell4 HB3.out hbl cy_0 cy_1 cy_2 cy_3) | (go_at_call 78; refine (tg_spec ⟨y0, y1, y2, y3⟩ hyy [.int .i64 y0, .int .i64 y1, .string y2, .slice Dy y3.length dy] _ w.heap.size HB3.out.size (ndV ((Qy.out.up hB0).below HB3.out (Nat.le_refl _)))).mono ?_; rw [HT.out]; rintro e w4 ⟨rfl, hb_w4⟩; have HB4 := hid (HB3.out.trans (hb_w4.mono HB3.out.size)); have ⟨bx_w4_0, bx_w4_1, bx_w4_2, bx_w4_3⟩ := cell4 hb_w4 sz_w3 bx_w3_0 bx_w3_1 bx_w3_2 bx_w3_3; have sz_w4 := Nat.lt_of_lt_of_le sz_w3 hb_w4.size; have ⟨k_w4_y0, k_w4_y1, k_w4_y2, k_w4_y3⟩ := cell4 HB4.out hbl cy_0 cy_1 cy_2 cy_3))
      all_goals (first | (go_ret; exact ⟨ret_bool (by exact fZ), Hid.out (by assumption)⟩))
    | true =>
      have HT := hid hvHT
      go_enter Tryz.func44, Tryz.ntmps44
      go_wp2_with (first | (go_at_call 43; refine FDC.out.mono ?_; rintro e w3 ⟨rfl, hb3⟩; have HB3 := hid (HB.out.trans (hb3.mono HB.out.size)); have ⟨bx_w3_0, bx_w3_1, bx_w3_2, bx_w3_3⟩ := box4 hb3; have sz_w3 := szA hb3; have ⟨k_w3_y0, k_w3_y1, k_w3_y2, k_w3_y3⟩ := cell4 HB3.out hbl cy_0 cy_1 cy_2 cy_3) | (go_at_call 78; refine (tg_spec ⟨y0, y1, y2, y3⟩ hyy [.int .i64 y0, .int .i64 y1, .string y2, .slice Dy y3.length dy] _ w.heap.size HB3.out.size (ndV ((Qy.out.up hB0).below HB3.out (Nat.le_refl _)))).mono ?_; rw [HT.out]; rintro e w4 ⟨rfl, hb_w4⟩; have HB4 := hid (HB3.out.trans (hb_w4.mono HB3.out.size)); have ⟨bx_w4_0, bx_w4_1, bx_w4_2, bx_w4_3⟩ := cell4 hb_w4 sz_w3 bx_w3_0 bx_w3_1 bx_w3_2 bx_w3_3; have sz_w4 := Nat.lt_of_lt_of_le sz_w3 hb_w4.size; have ⟨k_w4_y0, k_w4_y1, k_w4_y2, k_w4_y3⟩ := cell4 HB4.out hbl cy_0 cy_1 cy_2 cy_3) | (go_at_call 76; refine (Cy.out [.int .i64 y0, .int .i64 y1, .string y2, .slice Dy y3.length dy] _ w.heap.size HB4.out.size (ndV ((Qy.out.up hB0).below HB4.out (Nat.le_refl _)))).mono ?_; rintro e w5 ⟨rfl, hb_w5⟩; have HB5 := hid (HB4.out.trans (hb_w5.mono HB4.out.size)); have ⟨_, _, _, _⟩ := cell4 hb_w5 sz_w4 bx_w4_0 bx_w4_1 bx_w4_2 bx_w4_3; have sz_w5 := Nat.lt_of_lt_of_le sz_w4 hb_w5.size; have ⟨_, _, _, _⟩ := cell4 HB5.out hbl cy_0 cy_1 cy_2 cy_3))
      all_goals (first | (go_ret; exact ⟨ret_bool (by exact fZ), Hid.out (by assumption)⟩))
  · skip
    clear hm hw hE
    go_enter Tryz.func44, Tryz.ntmps44
    go_wp2_with ((go_at_call 43; refine FDC.out.mono ?_; rintro e w3 ⟨rfl, hb3⟩; have HB3 := hid (HB.out.trans (hb3.mono HB.out.size)); have ⟨bx_w3_0, bx_w3_1, bx_w3_2, bx_w3_3⟩ := box4 hb3; have sz_w3 := szA hb3))
    all_goals (first | (go_ret; exact ⟨ret_bool (by exact fZ), Hid.out (by assumption)⟩))
end Go.Proofs.YtimiieckkdogeaaGreat
