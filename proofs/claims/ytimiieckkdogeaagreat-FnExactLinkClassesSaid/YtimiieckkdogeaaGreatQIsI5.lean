/-
  Parts of the proof: IsI5. Conditions: none.
-/
import Derived.Test.YtimiieckkdogeaaGreatQGBaseNd
import Derived.Test.YtimiieckkdogeaaGreatQIsT
set_option linter.unusedVariables false
set_option linter.unusedSimpArgs false
namespace Go.Proofs.YtimiieckkdogeaaGreat
set_option maxHeartbeats 40000000
open Lib (hid)
open Go.ChangeShapes Go.WideShapes Go.ChangeAt Go.RowKit Go.Deep Go.Joins
open Go.ChangeMaps (open_string shut_string)
set_option maxRecDepth 100000
theorem two_of {l : List FNode} (h : l.length = 2) : ∃ a b, l = [a, b] := by
  match l, h with
  | [a, b], _ => exact ⟨a, b, rfl⟩
theorem exI_15 (z1 : Int) (z2 : ByteArray) (z3 : List FNode) (hw : (FNode.mk 15 z1 z2 z3).wt ≤ 9000000000) (hA : AlI z3) : ExI (.mk 15 z1 z2 z3) := by
  intro us w B hmx hB0 hr
  obtain ⟨A3, c3, rfl, r3⟩ := hr.node
  rw [FNode.wt_eq] at hw
  have hz : z2.size ≤ 9223372036854775807 := by omega
  have hl : z3.length ≤ 9223372036854775807 := by omega
  have EX := hid (show exF ⟨15, z1, z2, z3⟩ = (((z1 == 0) && emT z2) && (z3.length == 2 && (hdT z3 && z3.all exF))) from by rw [exF_mk]; rfl)
  unfold AlI at hA
  obtain ⟨m, hm⟩ : ∃ m, z3.length = m := ⟨_, rfl⟩
  try rw [hm] at EX
  rw [hm] at hl r3 hA ⊢
  have HB := hbA w 15 z1 z2 (.slice A3 m c3)
  have CALL := hid (hA _ _ w.heap.size (hmx.below HB.out) HB.out.size ((r3.up hB0).below HB.out (Nat.le_refl _)))
  clear hr
  have HR := hid r3
  clear r3
  by_cases e2 : z1 = 0
  · subst e2
    by_cases e1 : m = 2
    · subst e1
      obtain ⟨⟨y0, y1, y2, y3⟩, yb, rfl⟩ := two_of hm
      have hy : (FNode.mk y0 y1 y2 y3).wt ≤ 9000000000 := by have := FNode.wts_at [FNode.mk y0 y1 y2 y3, yb] _ (List.mem_cons_self ..); omega
      obtain ⟨bcy, offcy, Ey, hblcy, hcc⟩ := RdC.at_ (l := [FNode.mk y0 y1 y2 y3, yb]) FNode.len HR.out (i := 0) (x := FNode.mk y0 y1 y2 y3) rfl
      obtain ⟨Dy, dy, c_0, c_1, c_2, c_3, q3⟩ := opN (Below.refl w.heap.size w) (by omega) hcc (offcy) (offcy + 1) (offcy + 2) (offcy + 3) (by omega)
      have Qy := hid q3
      clear hcc q3
      subst Ey
      have hbl : bcy < w.heap.size := Nat.lt_of_lt_of_le hblcy hB0
      cases hv : [FNode.mk y0 y1 y2 y3, yb].all exF with
      | false =>
        rw [hv] at CALL EX
        clear hm hw hy hv
        go_enter Tryz.func88, Tryz.ntmps88
        go_wp2_with (first | (go_at_call 92; refine CALL.out.mono ?_; rintro e w' ⟨rfl, hb3⟩))
        all_goals (go_ret; exact ⟨ret_bool (by rw [EX.out]; exact fZ), bT HB⟩)
      | true =>
        have HT := hid (tg_eq ⟨y0, y1, y2, y3⟩ (by simp at hv; exact hv.1))
        rw [hv, show hdT [FNode.mk y0 y1 y2 y3, yb] = tgN ⟨y0, y1, y2, y3⟩ from rfl] at EX
        rw [hv] at CALL
        clear hm hw hv
        go_enter Tryz.func88, Tryz.ntmps88
        go_wp2_with (first | (go_at_call 92; refine CALL.out.mono ?_; rintro e w3 ⟨rfl, hb3⟩; have HB3 := hid (HB.out.trans (hb3.mono HB.out.size)); have bx : w3.cell? ⟨w.heap.size, 3, none⟩ = some (.slice (some ⟨bcy, offcy, none⟩) 2 c3) := (hb3.cell (p := ⟨w.heap.size, 3, none⟩) (by show w.heap.size < _; simp)).trans (by rw [World.cell?_alloc_new]; rfl); have ⟨_, _, _, _⟩ := cell4 HB3.out hbl c_0 c_1 c_2 c_3) | (go_at_call 115; refine (isT_impl ⟨y0, y1, y2, y3⟩ hy [.int .i64 y0, .int .i64 y1, .string y2, .slice Dy y3.length dy] _ w.heap.size HB3.out.size (ndV ((Qy.out.up hB0).below HB3.out (Nat.le_refl _)))).mono ?_; rw [HT.out]; rintro e w4 ⟨rfl, hb4⟩))
        all_goals (first | (go_ret; exact ⟨ret_bool (by rw [EX.out]; exact fZ), HB.out⟩) | (go_ret; exact ⟨ret_bool (by rw [EX.out]; exact fZ), HB3.out.trans (Below.mono (by assumption) HB3.out.size)⟩))
    · clear hm hw hA
      go_enter Tryz.func88, Tryz.ntmps88
      go_wp2_with (fail)
      all_goals (go_ret; exact ⟨ret_bool (by rw [EX.out]; exact fZ), bT HB⟩)
  · clear hm hw hA
    go_enter Tryz.func88, Tryz.ntmps88
    go_wp2_with (fail)
    all_goals (go_ret; exact ⟨ret_bool (by rw [EX.out]; exact fZ), bT HB⟩)
theorem exI_16 (z1 : Int) (z2 : ByteArray) (z3 : List FNode) (hw : (FNode.mk 16 z1 z2 z3).wt ≤ 9000000000) (hA : AlI z3) : ExI (.mk 16 z1 z2 z3) := by
  intro us w B hmx hB0 hr
  obtain ⟨A3, c3, rfl, r3⟩ := hr.node
  rw [FNode.wt_eq] at hw
  have hz : z2.size ≤ 9223372036854775807 := by omega
  have hl : z3.length ≤ 9223372036854775807 := by omega
  have EX := hid (show exF ⟨16, z1, z2, z3⟩ = (((z1 == 0) && emT z2) && (z3.length == 2 && (hdT z3 && z3.all exF))) from by rw [exF_mk]; rfl)
  unfold AlI at hA
  obtain ⟨m, hm⟩ : ∃ m, z3.length = m := ⟨_, rfl⟩
  try rw [hm] at EX
  rw [hm] at hl r3 hA ⊢
  have HB := hbA w 16 z1 z2 (.slice A3 m c3)
  have CALL := hid (hA _ _ w.heap.size (hmx.below HB.out) HB.out.size ((r3.up hB0).below HB.out (Nat.le_refl _)))
  clear hr
  have HR := hid r3
  clear r3
  by_cases e2 : z1 = 0
  · subst e2
    by_cases e1 : m = 2
    · subst e1
      obtain ⟨⟨y0, y1, y2, y3⟩, yb, rfl⟩ := two_of hm
      have hy : (FNode.mk y0 y1 y2 y3).wt ≤ 9000000000 := by have := FNode.wts_at [FNode.mk y0 y1 y2 y3, yb] _ (List.mem_cons_self ..); omega
      obtain ⟨bcy, offcy, Ey, hblcy, hcc⟩ := RdC.at_ (l := [FNode.mk y0 y1 y2 y3, yb]) FNode.len HR.out (i := 0) (x := FNode.mk y0 y1 y2 y3) rfl
      obtain ⟨Dy, dy, c_0, c_1, c_2, c_3, q3⟩ := opN (Below.refl w.heap.size w) (by omega) hcc (offcy) (offcy + 1) (offcy + 2) (offcy + 3) (by omega)
      have Qy := hid q3
      clear hcc q3
      subst Ey
      have hbl : bcy < w.heap.size := Nat.lt_of_lt_of_le hblcy hB0
      cases hv : [FNode.mk y0 y1 y2 y3, yb].all exF with
      | false =>
        rw [hv] at CALL EX
        clear hm hw hy hv
        go_enter Tryz.func88, Tryz.ntmps88
        go_wp2_with (first | (go_at_call 92; refine CALL.out.mono ?_; rintro e w' ⟨rfl, hb3⟩))
        all_goals (go_ret; exact ⟨ret_bool (by rw [EX.out]; exact fZ), bT HB⟩)
      | true =>
        have HT := hid (tg_eq ⟨y0, y1, y2, y3⟩ (by simp at hv; exact hv.1))
        rw [hv, show hdT [FNode.mk y0 y1 y2 y3, yb] = tgN ⟨y0, y1, y2, y3⟩ from rfl] at EX
        rw [hv] at CALL
        clear hm hw hv
        go_enter Tryz.func88, Tryz.ntmps88
        go_wp2_with (first | (go_at_call 92; refine CALL.out.mono ?_; rintro e w3 ⟨rfl, hb3⟩; have HB3 := hid (HB.out.trans (hb3.mono HB.out.size)); have bx : w3.cell? ⟨w.heap.size, 3, none⟩ = some (.slice (some ⟨bcy, offcy, none⟩) 2 c3) := (hb3.cell (p := ⟨w.heap.size, 3, none⟩) (by show w.heap.size < _; simp)).trans (by rw [World.cell?_alloc_new]; rfl); have ⟨_, _, _, _⟩ := cell4 HB3.out hbl c_0 c_1 c_2 c_3) | (go_at_call 115; refine (isT_impl ⟨y0, y1, y2, y3⟩ hy [.int .i64 y0, .int .i64 y1, .string y2, .slice Dy y3.length dy] _ w.heap.size HB3.out.size (ndV ((Qy.out.up hB0).below HB3.out (Nat.le_refl _)))).mono ?_; rw [HT.out]; rintro e w4 ⟨rfl, hb4⟩))
        all_goals (first | (go_ret; exact ⟨ret_bool (by rw [EX.out]; exact fZ), HB.out⟩) | (go_ret; exact ⟨ret_bool (by rw [EX.out]; exact fZ), HB3.out.trans (Below.mono (by assumption) HB3.out.size)⟩))
    · clear hm hw hA
      go_enter Tryz.func88, Tryz.ntmps88
      go_wp2_with (fail)
      all_goals (go_ret; exact ⟨ret_bool (by rw [EX.out]; exact fZ), bT HB⟩)
  · clear hm hw hA
    go_enter Tryz.func88, Tryz.ntmps88
    go_wp2_with (fail)
    all_goals (go_ret; exact ⟨ret_bool (by rw [EX.out]; exact fZ), bT HB⟩)
end Go.Proofs.YtimiieckkdogeaaGreat
