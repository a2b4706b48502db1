/-
  Parts of the proof: IsU1. Conditions: none.
-/
import Derived.Test.YtimiieckkdogeaaGreatQGBaseNd
import Derived.Test.YtimiieckkdogeaaGreatQIsS4
import Derived.Test.YtimiieckkdogeaaGreatQIsI5
set_option linter.unusedVariables false
set_option linter.unusedSimpArgs false
namespace Go.Proofs.YtimiieckkdogeaaGreat
open Lib (hid)
open Go.ChangeShapes Go.WideShapes Go.ChangeAt Go.RowKit Go.Deep Go.Joins
open Go.ChangeMaps (open_string shut_string)
set_option maxRecDepth 100000
theorem stS_31 (z1 : Int) (z2 : ByteArray) (z3 : List FNode) (hw : (FNode.mk 31 z1 z2 z3).wt ≤ 9000000000) (hn : fN 31 z1 = true) (ht : fT 31 z2 = true) : SaB 44 (FNode.mk 31 z1 z2 z3) (z3.length == 0) := by
  intro us w B hB0 hr
  have FD := fd_spec _ hw
  obtain ⟨A3, c3, rfl, r3⟩ := hr.node
  rw [FNode.wt_eq] at hw
  have hz : z2.size ≤ 9223372036854775807 := by omega
  have hl : z3.length ≤ 9000000000 := by omega
  have FDC := fdC FD hn ht hB0 r3
  clear FD
  have hpos3 := r3
  obtain ⟨m, hm⟩ : ∃ m, z3.length = m := ⟨_, rfl⟩
  try rw [hm] at hl r3 FDC ⊢
  have HR := hid r3
  have HB := hbA w 31 z1 z2 (.slice A3 m c3)
  clear hr r3 hpos3
  clear hm hw
  by_cases e1 : m = 0
  · subst e1
    go_enter Tryz.func44, Tryz.ntmps44
    go_wp2_with ((go_at_call 43; refine FDC.out.mono ?_; rintro e w3 ⟨rfl, hb3⟩; have HB3 := hid (HB.out.trans (hb3.mono HB.out.size)); have ⟨bx_w3_0, bx_w3_1, bx_w3_2, bx_w3_3⟩ := box4 hb3; have sz_w3 := szA hb3))
    all_goals (first | (go_ret; exact ⟨ret_bool (by exact fZ), Hid.out (by assumption)⟩))
  ·
    go_enter Tryz.func44, Tryz.ntmps44
    go_wp2_with ((go_at_call 43; refine FDC.out.mono ?_; rintro e w3 ⟨rfl, hb3⟩; have HB3 := hid (HB.out.trans (hb3.mono HB.out.size)); have ⟨bx_w3_0, bx_w3_1, bx_w3_2, bx_w3_3⟩ := box4 hb3; have sz_w3 := szA hb3))
    all_goals (first | (go_ret; exact ⟨ret_bool (by exact fZ), Hid.out (by assumption)⟩))
theorem stS_37 (z1 : Int) (z2 : ByteArray) (z3 : List FNode) (hw : (FNode.mk 37 z1 z2 z3).wt ≤ 9000000000) (hn : fN 37 z1 = true) (ht : fT 37 z2 = true) : SaB 44 (FNode.mk 37 z1 z2 z3) (z3.length == 0) := by
  intro us w B hB0 hr
  have FD := fd_spec _ hw
  obtain ⟨A3, c3, rfl, r3⟩ := hr.node
  rw [FNode.wt_eq] at hw
  have hz : z2.size ≤ 9223372036854775807 := by omega
  have hl : z3.length ≤ 9000000000 := by omega
  have FDC := fdC FD hn ht hB0 r3
  clear FD
  have hpos3 := r3
  obtain ⟨m, hm⟩ : ∃ m, z3.length = m := ⟨_, rfl⟩
  try rw [hm] at hl r3 FDC ⊢
  have HR := hid r3
  have HB := hbA w 37 z1 z2 (.slice A3 m c3)
  clear hr r3 hpos3
  clear hm hw
  by_cases e1 : m = 0
  · subst e1
    go_enter Tryz.func44, Tryz.ntmps44
    go_wp2_with ((go_at_call 43; refine FDC.out.mono ?_; rintro e w3 ⟨rfl, hb3⟩; have HB3 := hid (HB.out.trans (hb3.mono HB.out.size)); have ⟨bx_w3_0, bx_w3_1, bx_w3_2, bx_w3_3⟩ := box4 hb3; have sz_w3 := szA hb3))
    all_goals (first | (go_ret; exact ⟨ret_bool (by exact fZ), Hid.out (by assumption)⟩))
  ·
    go_enter Tryz.func44, Tryz.ntmps44
    go_wp2_with ((go_at_call 43; refine FDC.out.mono ?_; rintro e w3 ⟨rfl, hb3⟩; have HB3 := hid (HB.out.trans (hb3.mono HB.out.size)); have ⟨bx_w3_0, bx_w3_1, bx_w3_2, bx_w3_3⟩ := box4 hb3; have sz_w3 := szA hb3))
    all_goals (first | (go_ret; exact ⟨ret_bool (by exact fZ), Hid.out (by assumption)⟩))
theorem stS_38 (z1 : Int) (z2 : ByteArray) (z3 : List FNode) (hw : (FNode.mk 38 z1 z2 z3).wt ≤ 9000000000) (hn : fN 38 z1 = true) (ht : fT 38 z2 = true) : SaB 44 (FNode.mk 38 z1 z2 z3) (z3.length == 0) := by
  intro us w B hB0 hr
  have FD := fd_spec _ hw
  obtain ⟨A3, c3, rfl, r3⟩ := hr.node
  rw [FNode.wt_eq] at hw
  have hz : z2.size ≤ 9223372036854775807 := by omega
  have hl : z3.length ≤ 9000000000 := by omega
  have FDC := fdC FD hn ht hB0 r3
  clear FD
  have hpos3 := r3
  obtain ⟨m, hm⟩ : ∃ m, z3.length = m := ⟨_, rfl⟩
  try rw [hm] at hl r3 FDC ⊢
  have HR := hid r3
  have HB := hbA w 38 z1 z2 (.slice A3 m c3)
  clear hr r3 hpos3
  clear hm hw
  by_cases e1 : m = 0
  · subst e1
    go_enter Tryz.func44, Tryz.ntmps44
    go_wp2_with ((go_at_call 43; refine FDC.out.mono ?_; rintro e w3 ⟨rfl, hb3⟩; have HB3 := hid (HB.out.trans (hb3.mono HB.out.size)); have ⟨bx_w3_0, bx_w3_1, bx_w3_2, bx_w3_3⟩ := box4 hb3; have sz_w3 := szA hb3))
    all_goals (first | (go_ret; exact ⟨ret_bool (by exact fZ), Hid.out (by assumption)⟩))
  ·
    go_enter Tryz.func44, Tryz.ntmps44
    go_wp2_with ((go_at_call 43; refine FDC.out.mono ?_; rintro e w3 ⟨rfl, hb3⟩; have HB3 := hid (HB.out.trans (hb3.mono HB.out.size)); have ⟨bx_w3_0, bx_w3_1, bx_w3_2, bx_w3_3⟩ := box4 hb3; have sz_w3 := szA hb3))
    all_goals (first | (go_ret; exact ⟨ret_bool (by exact fZ), Hid.out (by assumption)⟩))
theorem stS_40 (z1 : Int) (z2 : ByteArray) (z3 : List FNode) (hw : (FNode.mk 40 z1 z2 z3).wt ≤ 9000000000) (hn : fN 40 z1 = true) (ht : fT 40 z2 = true) : SaB 44 (FNode.mk 40 z1 z2 z3) (z3.length == 0) := by
  intro us w B hB0 hr
  have FD := fd_spec _ hw
  obtain ⟨A3, c3, rfl, r3⟩ := hr.node
  rw [FNode.wt_eq] at hw
  have hz : z2.size ≤ 9223372036854775807 := by omega
  have hl : z3.length ≤ 9000000000 := by omega
  have FDC := fdC FD hn ht hB0 r3
  clear FD
  have hpos3 := r3
  obtain ⟨m, hm⟩ : ∃ m, z3.length = m := ⟨_, rfl⟩
  try rw [hm] at hl r3 FDC ⊢
  have HR := hid r3
  have HB := hbA w 40 z1 z2 (.slice A3 m c3)
  clear hr r3 hpos3
  clear hm hw
  by_cases e1 : m = 0
  · subst e1
    go_enter Tryz.func44, Tryz.ntmps44
    go_wp2_with ((go_at_call 43; refine FDC.out.mono ?_; rintro e w3 ⟨rfl, hb3⟩; have HB3 := hid (HB.out.trans (hb3.mono HB.out.size)); have ⟨bx_w3_0, bx_w3_1, bx_w3_2, bx_w3_3⟩ := box4 hb3; have sz_w3 := szA hb3))
    all_goals (first | (go_ret; exact ⟨ret_bool (by exact fZ), Hid.out (by assumption)⟩))
  ·
    go_enter Tryz.func44, Tryz.ntmps44
    go_wp2_with ((go_at_call 43; refine FDC.out.mono ?_; rintro e w3 ⟨rfl, hb3⟩; have HB3 := hid (HB.out.trans (hb3.mono HB.out.size)); have ⟨bx_w3_0, bx_w3_1, bx_w3_2, bx_w3_3⟩ := box4 hb3; have sz_w3 := szA hb3))
    all_goals (first | (go_ret; exact ⟨ret_bool (by exact fZ), Hid.out (by assumption)⟩))
theorem stS_47 (z1 : Int) (z2 : ByteArray) (z3 : List FNode) (hw : (FNode.mk 47 z1 z2 z3).wt ≤ 9000000000) (hn : fN 47 z1 = true) (ht : fT 47 z2 = true) : SaB 44 (FNode.mk 47 z1 z2 z3) (z3.length == 0) := by
  intro us w B hB0 hr
  have FD := fd_spec _ hw
  obtain ⟨A3, c3, rfl, r3⟩ := hr.node
  rw [FNode.wt_eq] at hw
  have hz : z2.size ≤ 9223372036854775807 := by omega
  have hl : z3.length ≤ 9000000000 := by omega
  have FDC := fdC FD hn ht hB0 r3
  clear FD
  have hpos3 := r3
  obtain ⟨m, hm⟩ : ∃ m, z3.length = m := ⟨_, rfl⟩
  try rw [hm] at hl r3 FDC ⊢
  have HR := hid r3
  have HB := hbA w 47 z1 z2 (.slice A3 m c3)
  clear hr r3 hpos3
  clear hm hw
  by_cases e1 : m = 0
  · subst e1
    go_enter Tryz.func44, Tryz.ntmps44
    go_wp2_with ((go_at_call 43; refine FDC.out.mono ?_; rintro e w3 ⟨rfl, hb3⟩; have HB3 := hid (HB.out.trans (hb3.mono HB.out.size)); have ⟨bx_w3_0, bx_w3_1, bx_w3_2, bx_w3_3⟩ := box4 hb3; have sz_w3 := szA hb3))
    all_goals (first | (go_ret; exact ⟨ret_bool (by exact fZ), Hid.out (by assumption)⟩))
  ·
    go_enter Tryz.func44, Tryz.ntmps44
    go_wp2_with ((go_at_call 43; refine FDC.out.mono ?_; rintro e w3 ⟨rfl, hb3⟩; have HB3 := hid (HB.out.trans (hb3.mono HB.out.size)); have ⟨bx_w3_0, bx_w3_1, bx_w3_2, bx_w3_3⟩ := box4 hb3; have sz_w3 := szA hb3))
    all_goals (first | (go_ret; exact ⟨ret_bool (by exact fZ), Hid.out (by assumption)⟩))
theorem stS_32 (z1 : Int) (z2 : ByteArray) (z3 : List FNode) (hw : (FNode.mk 32 z1 z2 z3).wt ≤ 9000000000) (hn : fN 32 z1 = true) (ht : fT 32 z2 = true) (hE : ∀ x, x ∈ z3 → ExS x) : SaB 44 (FNode.mk 32 z1 z2 z3) (z3.length == 1 && z3.all exF) := by
  intro us w B hB0 hr
  have FD := fd_spec _ hw
  obtain ⟨A3, c3, rfl, r3⟩ := hr.node
  rw [FNode.wt_eq] at hw
  have hz : z2.size ≤ 9223372036854775807 := by omega
  have hl : z3.length ≤ 9000000000 := by omega
  have FDC := fdC FD hn ht hB0 r3
  clear FD
  have hpos3 := r3
  obtain ⟨m, hm⟩ : ∃ m, z3.length = m := ⟨_, rfl⟩
  try rw [hm] at hl r3 FDC ⊢
  have HR := hid r3
  have HB := hbA w 32 z1 z2 (.slice A3 m c3)
  clear hr r3 hpos3
  by_cases e1 : m = 1
  · subst e1
    obtain ⟨⟨y0, y1, y2, y3⟩, rfl⟩ := List.length_eq_one_iff.mp hm
    have HV := hid (hE ⟨y0, y1, y2, y3⟩ (List.mem_singleton.mpr rfl))
    obtain ⟨bcy, offcy, Ey, hblcy, hcc⟩ := RdC.at_ (l := [FNode.mk y0 y1 y2 y3]) FNode.len HR.out (i := 0) (x := FNode.mk y0 y1 y2 y3) rfl
    obtain ⟨Dy, dy, cy_0, cy_1, cy_2, cy_3, q3⟩ := opN (Below.refl w.heap.size w) (by omega) hcc (offcy) (offcy + 1) (offcy + 2) (offcy + 3) (by omega)
    have Qy := hid q3
    clear hcc q3
    have hbl : bcy < w.heap.size := Nat.lt_of_lt_of_le hblcy hB0
    subst Ey
    clear hm hw hE
    rw [show [FNode.mk y0 y1 y2 y3].all exF = exF ⟨y0, y1, y2, y3⟩ from by simp]
    unfold ExS at HV
    generalize exF ⟨y0, y1, y2, y3⟩ = b at *
    go_enter Tryz.func44, Tryz.ntmps44
    go_wp2_with (first | (go_at_call 43; refine FDC.out.mono ?_; rintro e w3 ⟨rfl, hb3⟩; have HB3 := hid (HB.out.trans (hb3.mono HB.out.size)); have ⟨bx_w3_0, bx_w3_1, bx_w3_2, bx_w3_3⟩ := box4 hb3; have sz_w3 := szA hb3; have ⟨_, _, _, _⟩ := cell4 HB3.out hbl cy_0 cy_1 cy_2 cy_3) | (go_at_call 76; refine (HV.out [.int .i64 y0, .int .i64 y1, .string y2, .slice Dy y3.length dy] _ w.heap.size HB3.out.size (ndV ((Qy.out.up hB0).below HB3.out (Nat.le_refl _)))).mono ?_; rintro e w4 ⟨rfl, hb_w4⟩; have HB4 := hid (HB3.out.trans (hb_w4.mono HB3.out.size))))
    all_goals (first | (go_ret; exact ⟨ret_bool (by exact fZ), Hid.out (by assumption)⟩))
  · clear hm hw hE
    go_enter Tryz.func44, Tryz.ntmps44
    go_wp2_with ((go_at_call 43; refine FDC.out.mono ?_; rintro e w3 ⟨rfl, hb3⟩; have HB3 := hid (HB.out.trans (hb3.mono HB.out.size)); have ⟨bx_w3_0, bx_w3_1, bx_w3_2, bx_w3_3⟩ := box4 hb3; have sz_w3 := szA hb3))
    all_goals (first | (go_ret; exact ⟨ret_bool (by exact fZ), Hid.out (by assumption)⟩))
theorem stS_33 (z1 : Int) (z2 : ByteArray) (z3 : List FNode) (hw : (FNode.mk 33 z1 z2 z3).wt ≤ 9000000000) (hn : fN 33 z1 = true) (ht : fT 33 z2 = true) (hE : ∀ x, x ∈ z3 → ExS x) : SaB 44 (FNode.mk 33 z1 z2 z3) (z3.length == 1 && z3.all exF) := by
  intro us w B hB0 hr
  have FD := fd_spec _ hw
  obtain ⟨A3, c3, rfl, r3⟩ := hr.node
  rw [FNode.wt_eq] at hw
  have hz : z2.size ≤ 9223372036854775807 := by omega
  have hl : z3.length ≤ 9000000000 := by omega
  have FDC := fdC FD hn ht hB0 r3
  clear FD
  have hpos3 := r3
  obtain ⟨m, hm⟩ : ∃ m, z3.length = m := ⟨_, rfl⟩
  try rw [hm] at hl r3 FDC ⊢
  have HR := hid r3
  have HB := hbA w 33 z1 z2 (.slice A3 m c3)
  clear hr r3 hpos3
  by_cases e1 : m = 1
  · subst e1
    obtain ⟨⟨y0, y1, y2, y3⟩, rfl⟩ := List.length_eq_one_iff.mp hm
    have HV := hid (hE ⟨y0, y1, y2, y3⟩ (List.mem_singleton.mpr rfl))
    obtain ⟨bcy, offcy, Ey, hblcy, hcc⟩ := RdC.at_ (l := [FNode.mk y0 y1 y2 y3]) FNode.len HR.out (i := 0) (x := FNode.mk y0 y1 y2 y3) rfl
    obtain ⟨Dy, dy, cy_0, cy_1, cy_2, cy_3, q3⟩ := opN (Below.refl w.heap.size w) (by omega) hcc (offcy) (offcy + 1) (offcy + 2) (offcy + 3) (by omega)
    have Qy := hid q3
    clear hcc q3
    have hbl : bcy < w.heap.size := Nat.lt_of_lt_of_le hblcy hB0
    subst Ey
    clear hm hw hE
    rw [show [FNode.mk y0 y1 y2 y3].all exF = exF ⟨y0, y1, y2, y3⟩ from by simp]
    unfold ExS at HV
    generalize exF ⟨y0, y1, y2, y3⟩ = b at *
    go_enter Tryz.func44, Tryz.ntmps44
    go_wp2_with (first | (go_at_call 43; refine FDC.out.mono ?_; rintro e w3 ⟨rfl, hb3⟩; have HB3 := hid (HB.out.trans (hb3.mono HB.out.size)); have ⟨bx_w3_0, bx_w3_1, bx_w3_2, bx_w3_3⟩ := box4 hb3; have sz_w3 := szA hb3; have ⟨_, _, _, _⟩ := cell4 HB3.out hbl cy_0 cy_1 cy_2 cy_3) | (go_at_call 76; refine (HV.out [.int .i64 y0, .int .i64 y1, .string y2, .slice Dy y3.length dy] _ w.heap.size HB3.out.size (ndV ((Qy.out.up hB0).below HB3.out (Nat.le_refl _)))).mono ?_; rintro e w4 ⟨rfl, hb_w4⟩; have HB4 := hid (HB3.out.trans (hb_w4.mono HB3.out.size))))
    all_goals (first | (go_ret; exact ⟨ret_bool (by exact fZ), Hid.out (by assumption)⟩))
  · clear hm hw hE
    go_enter Tryz.func44, Tryz.ntmps44
    go_wp2_with ((go_at_call 43; refine FDC.out.mono ?_; rintro e w3 ⟨rfl, hb3⟩; have HB3 := hid (HB.out.trans (hb3.mono HB.out.size)); have ⟨bx_w3_0, bx_w3_1, bx_w3_2, bx_w3_3⟩ := box4 hb3; have sz_w3 := szA hb3))
    all_goals (first | (go_ret; exact ⟨ret_bool (by exact fZ), Hid.out (by assumption)⟩))
theorem stS_42 (z1 : Int) (z2 : ByteArray) (z3 : List FNode) (hw : (FNode.mk 42 z1 z2 z3).wt ≤ 9000000000) (hn : fN 42 z1 = true) (ht : fT 42 z2 = true) (hE : ∀ x, x ∈ z3 → ExS x) : SaB 44 (FNode.mk 42 z1 z2 z3) (z3.length == 1 && z3.all exF) := by
  intro us w B hB0 hr
  have FD := fd_spec _ hw
  obtain ⟨A3, c3, rfl, r3⟩ := hr.node
  rw [FNode.wt_eq] at hw
  have hz : z2.size ≤ 9223372036854775807 := by omega
  have hl : z3.length ≤ 9000000000 := by omega
  have FDC := fdC FD hn ht hB0 r3
  clear FD
  have hpos3 := r3
  obtain ⟨m, hm⟩ : ∃ m, z3.length = m := ⟨_, rfl⟩
  try rw [hm] at hl r3 FDC ⊢
  have HR := hid r3
  have HB := hbA w 42 z1 z2 (.slice A3 m c3)
  clear hr r3 hpos3
  by_cases e1 : m = 1
  · subst e1
    obtain ⟨⟨y0, y1, y2, y3⟩, rfl⟩ := List.length_eq_one_iff.mp hm
    have HV := hid (hE ⟨y0, y1, y2, y3⟩ (List.mem_singleton.mpr rfl))
    obtain ⟨bcy, offcy, Ey, hblcy, hcc⟩ := RdC.at_ (l := [FNode.mk y0 y1 y2 y3]) FNode.len HR.out (i := 0) (x := FNode.mk y0 y1 y2 y3) rfl
    obtain ⟨Dy, dy, cy_0, cy_1, cy_2, cy_3, q3⟩ := opN (Below.refl w.heap.size w) (by omega) hcc (offcy) (offcy + 1) (offcy + 2) (offcy + 3) (by omega)
    have Qy := hid q3
    clear hcc q3
    have hbl : bcy < w.heap.size := Nat.lt_of_lt_of_le hblcy hB0
    subst Ey
    clear hm hw hE
    rw [show [FNode.mk y0 y1 y2 y3].all exF = exF ⟨y0, y1, y2, y3⟩ from by simp]
    unfold ExS at HV
    generalize exF ⟨y0, y1, y2, y3⟩ = b at *
    go_enter Tryz.func44, Tryz.ntmps44
    go_wp2_with (first | (go_at_call 43; refine FDC.out.mono ?_; rintro e w3 ⟨rfl, hb3⟩; have HB3 := hid (HB.out.trans (hb3.mono HB.out.size)); have ⟨bx_w3_0, bx_w3_1, bx_w3_2, bx_w3_3⟩ := box4 hb3; have sz_w3 := szA hb3; have ⟨_, _, _, _⟩ := cell4 HB3.out hbl cy_0 cy_1 cy_2 cy_3) | (go_at_call 76; refine (HV.out [.int .i64 y0, .int .i64 y1, .string y2, .slice Dy y3.length dy] _ w.heap.size HB3.out.size (ndV ((Qy.out.up hB0).below HB3.out (Nat.le_refl _)))).mono ?_; rintro e w4 ⟨rfl, hb_w4⟩; have HB4 := hid (HB3.out.trans (hb_w4.mono HB3.out.size))))
    all_goals (first | (go_ret; exact ⟨ret_bool (by exact fZ), Hid.out (by assumption)⟩))
  · clear hm hw hE
    go_enter Tryz.func44, Tryz.ntmps44
    go_wp2_with ((go_at_call 43; refine FDC.out.mono ?_; rintro e w3 ⟨rfl, hb3⟩; have HB3 := hid (HB.out.trans (hb3.mono HB.out.size)); have ⟨bx_w3_0, bx_w3_1, bx_w3_2, bx_w3_3⟩ := box4 hb3; have sz_w3 := szA hb3))
    all_goals (first | (go_ret; exact ⟨ret_bool (by exact fZ), Hid.out (by assumption)⟩))
theorem stS_39 (z1 : Int) (z2 : ByteArray) (z3 : List FNode) (hw : (FNode.mk 39 z1 z2 z3).wt ≤ 9000000000) (hn : fN 39 z1 = true) (ht : fT 39 z2 = true) (hA : EaS z3) : SaB 44 (FNode.mk 39 z1 z2 z3) (decide (z3.length ≤ 1) && z3.all exF) := by
  intro us w B hB0 hr
  have FD := fd_spec _ hw
  obtain ⟨A3, c3, rfl, r3⟩ := hr.node
  rw [FNode.wt_eq] at hw
  have hz : z2.size ≤ 9223372036854775807 := by omega
  have hl : z3.length ≤ 9000000000 := by omega
  have FDC := fdC FD hn ht hB0 r3
  clear FD
  have hpos3 := r3
  obtain ⟨m, hm⟩ : ∃ m, z3.length = m := ⟨_, rfl⟩
  try rw [hm] at hl r3 FDC ⊢
  have HR := hid r3
  have HB := hbA w 39 z1 z2 (.slice A3 m c3)
  clear hr r3 hpos3
  unfold EaS at hA
  rw [hm] at hA
  have HA := hid hA
  clear hA
  clear hm hw
  by_cases e1 : m ≤ 1
  · rw [show decide (m ≤ 1) = true from decide_eq_true e1]
    go_enter Tryz.func44, Tryz.ntmps44
    go_wp2_with (first | (go_at_call 43; refine FDC.out.mono ?_; rintro e w3 ⟨rfl, hb3⟩; have HB3 := hid (HB.out.trans (hb3.mono HB.out.size)); have ⟨bx_w3_0, bx_w3_1, bx_w3_2, bx_w3_3⟩ := box4 hb3; have sz_w3 := szA hb3) | (go_at_call 77; refine (HA.out _ _ w.heap.size HB3.out.size ((HR.out.up hB0).below HB3.out (Nat.le_refl _))).mono ?_; rintro e w4 ⟨rfl, hbe⟩; have HB4 := hid (HB3.out.trans (hbe.mono HB3.out.size))))
    all_goals (first | (go_ret; exact ⟨ret_bool (by exact fZ), Hid.out (by assumption)⟩))
  · rw [show decide (m ≤ 1) = false from decide_eq_false e1]
    go_enter Tryz.func44, Tryz.ntmps44
    go_wp2_with ((go_at_call 43; refine FDC.out.mono ?_; rintro e w3 ⟨rfl, hb3⟩; have HB3 := hid (HB.out.trans (hb3.mono HB.out.size)); have ⟨bx_w3_0, bx_w3_1, bx_w3_2, bx_w3_3⟩ := box4 hb3; have sz_w3 := szA hb3))
    all_goals (first | (go_ret; exact ⟨ret_bool (by exact fZ), Hid.out (by assumption)⟩))
theorem stS_o (z0 z1 : Int) (z2 : ByteArray) (z3 : List FNode) (hw : (FNode.mk z0 z1 z2 z3).wt ≤ 9000000000) (hn : fN z0 z1 = true) (ht : fT z0 z2 = true) (n31 : ¬ z0 = 31) (n32 : ¬ z0 = 32) (n33 : ¬ z0 = 33) (n34 : ¬ z0 = 34) (n35 : ¬ z0 = 35) (n36 : ¬ z0 = 36) (n37 : ¬ z0 = 37) (n38 : ¬ z0 = 38) (n39 : ¬ z0 = 39) (n40 : ¬ z0 = 40) (n41 : ¬ z0 = 41) (n42 : ¬ z0 = 42) (n43 : ¬ z0 = 43) (n46 : ¬ z0 = 46) (n47 : ¬ z0 = 47) (n48 : ¬ z0 = 48) : SaB 44 (FNode.mk z0 z1 z2 z3) (false) := by
  intro us w B hB0 hr
  have FD := fd_spec _ hw
  obtain ⟨A3, c3, rfl, r3⟩ := hr.node
  rw [FNode.wt_eq] at hw
  have hz : z2.size ≤ 9223372036854775807 := by omega
  have hl : z3.length ≤ 9000000000 := by omega
  have FDC := fdC FD hn ht hB0 r3
  clear FD
  have hpos3 := r3
  obtain ⟨m, hm⟩ : ∃ m, z3.length = m := ⟨_, rfl⟩
  try rw [hm] at hl r3 FDC ⊢
  have HR := hid r3
  have HB := hbA w z0 z1 z2 (.slice A3 m c3)
  clear hr r3 hpos3
  clear hm hw
  go_enter Tryz.func44, Tryz.ntmps44
  go_wp2_with ((go_at_call 43; refine FDC.out.mono ?_; rintro e w3 ⟨rfl, hb3⟩; have HB3 := hid (HB.out.trans (hb3.mono HB.out.size)); have ⟨bx_w3_0, bx_w3_1, bx_w3_2, bx_w3_3⟩ := box4 hb3; have sz_w3 := szA hb3))
  all_goals (first | (go_ret; exact ⟨ret_bool (by exact fZ), Hid.out (by assumption)⟩))
theorem stS_badf_o (z0 z1 : Int) (z2 : ByteArray) (z3 : List FNode) (hw : (FNode.mk z0 z1 z2 z3).wt ≤ 9000000000) (fb : Bool) (hn : fN z0 z1 = false) (ht : fT z0 z2 = fb) : SaB 44 (FNode.mk z0 z1 z2 z3) (false) := by
  intro us w B hB0 hr
  have FD := fd_spec _ hw
  obtain ⟨A3, c3, rfl, r3⟩ := hr.node
  rw [FNode.wt_eq] at hw
  have hz : z2.size ≤ 9223372036854775807 := by omega
  have hl : z3.length ≤ 9000000000 := by omega
  have FDC := fdC FD hn ht hB0 r3
  clear FD
  have hpos3 := r3
  obtain ⟨m, hm⟩ : ∃ m, z3.length = m := ⟨_, rfl⟩
  try rw [hm] at hl r3 FDC ⊢
  have HR := hid r3
  have HB := hbA w z0 z1 z2 (.slice A3 m c3)
  clear hr r3 hpos3
  clear hm hw
  go_enter Tryz.func44, Tryz.ntmps44
  go_wp2_with ((go_at_call 43; refine FDC.out.mono ?_; rintro e w3 ⟨rfl, hb3⟩; have HB3 := hid (HB.out.trans (hb3.mono HB.out.size)); have ⟨bx_w3_0, bx_w3_1, bx_w3_2, bx_w3_3⟩ := box4 hb3; have sz_w3 := szA hb3))
  all_goals (first | (go_ret; exact ⟨ret_bool (by exact fZ), Hid.out (by assumption)⟩))
theorem stS_badt_o (z0 z1 : Int) (z2 : ByteArray) (z3 : List FNode) (hw : (FNode.mk z0 z1 z2 z3).wt ≤ 9000000000) (fb : Bool) (hn : fN z0 z1 = true) (ht : fT z0 z2 = false) : SaB 44 (FNode.mk z0 z1 z2 z3) (false) := by
  intro us w B hB0 hr
  have FD := fd_spec _ hw
  obtain ⟨A3, c3, rfl, r3⟩ := hr.node
  rw [FNode.wt_eq] at hw
  have hz : z2.size ≤ 9223372036854775807 := by omega
  have hl : z3.length ≤ 9000000000 := by omega
  have FDC := fdC FD hn ht hB0 r3
  clear FD
  have hpos3 := r3
  obtain ⟨m, hm⟩ : ∃ m, z3.length = m := ⟨_, rfl⟩
  try rw [hm] at hl r3 FDC ⊢
  have HR := hid r3
  have HB := hbA w z0 z1 z2 (.slice A3 m c3)
  clear hr r3 hpos3
  clear hm hw
  go_enter Tryz.func44, Tryz.ntmps44
  go_wp2_with ((go_at_call 43; refine FDC.out.mono ?_; rintro e w3 ⟨rfl, hb3⟩; have HB3 := hid (HB.out.trans (hb3.mono HB.out.size)); have ⟨bx_w3_0, bx_w3_1, bx_w3_2, bx_w3_3⟩ := box4 hb3; have sz_w3 := szA hb3))
  all_goals (first | (go_ret; exact ⟨ret_bool (by exact fZ), Hid.out (by assumption)⟩))
end Go.Proofs.YtimiieckkdogeaaGreat
