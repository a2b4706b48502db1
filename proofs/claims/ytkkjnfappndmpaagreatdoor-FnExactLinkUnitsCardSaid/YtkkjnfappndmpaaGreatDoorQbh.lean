/-
 Parts of the proof: ScT. Conditions: none.
-/
import Derived.Test.YtkkjnfappndmpaaGreatDoorQFold
import Derived.Test.YtkkjnfappndmpaaGreatDoorQaw
import Derived.Test.YtkkjnfappndmpaaGreatDoorQbc
set_option linter.unusedVariables false
set_option linter.unusedSimpArgs false
namespace Go.Proofs.YtkkjnfappndmpaaGreatDoor
set_option maxHeartbeats 40000000
open Lib (hid)
open Go.ChangeShapes Go.WideShapes Go.ChangeAt Go.RowKit Go.Deep Go.Joins
open Go.ChangeMaps (open_string shut_string)
set_option maxRecDepth 100000
theorem below_drw {B : Nat} {a w : World} (h : Below B a w) : Below B a w.drew := ⟨h.os, h.tape, h.output, h.size, h.block⟩
/-- What stays: the node's box, the box of $this. -/
def TbS (w : World) (z2 : ByteArray) (A : Option Addr) (m c3 : Nat) (w_ : World) : Prop := Below w.heap.size w w_ ∧ w.heap.size + 1 < w_.heap.size ∧ w_.cell? ⟨w.heap.size, 2, none⟩ = some (.string z2) ∧ w_.cell? ⟨w.heap.size, 3, none⟩ = some (.slice A m c3) ∧ w_.cell? ⟨w.heap.size + 1, 0, none⟩ = some (.int .i64 4) ∧ w_.cell? ⟨w.heap.size + 1, 1, none⟩ = some (.int .i64 0) ∧ w_.cell? ⟨w.heap.size + 1, 2, none⟩ = some (.string ⟨#[116, 104, 105, 115]⟩) ∧ w_.cell? ⟨w.heap.size + 1, 3, none⟩ = some (.slice none 0 0)
theorem TbS.and {w w_ : World} {z2 : ByteArray} {A : Option Addr} {m c3 : Nat} {P : Prop} (h : TbS w z2 A m c3 w_) (p : P) : Below w.heap.size w w_ ∧ w.heap.size + 1 < w_.heap.size ∧ w_.cell? ⟨w.heap.size, 2, none⟩ = some (.string z2) ∧ w_.cell? ⟨w.heap.size, 3, none⟩ = some (.slice A m c3) ∧ w_.cell? ⟨w.heap.size + 1, 0, none⟩ = some (.int .i64 4) ∧ w_.cell? ⟨w.heap.size + 1, 1, none⟩ = some (.int .i64 0) ∧ w_.cell? ⟨w.heap.size + 1, 2, none⟩ = some (.string ⟨#[116, 104, 105, 115]⟩) ∧ w_.cell? ⟨w.heap.size + 1, 3, none⟩ = some (.slice none 0 0) ∧ P := by
 obtain ⟨h1, h2, h3, h4, h5, h6, h7, h8⟩ := h
 exact ⟨h1, h2, h3, h4, h5, h6, h7, h8, p⟩
theorem TbS.of {w w_ : World} {z2 : ByteArray} {A : Option Addr} {m c3 : Nat} {P : Prop} (h : Below w.heap.size w w_ ∧ w.heap.size + 1 < w_.heap.size ∧ w_.cell? ⟨w.heap.size, 2, none⟩ = some (.string z2) ∧ w_.cell? ⟨w.heap.size, 3, none⟩ = some (.slice A m c3) ∧ w_.cell? ⟨w.heap.size + 1, 0, none⟩ = some (.int .i64 4) ∧ w_.cell? ⟨w.heap.size + 1, 1, none⟩ = some (.int .i64 0) ∧ w_.cell? ⟨w.heap.size + 1, 2, none⟩ = some (.string ⟨#[116, 104, 105, 115]⟩) ∧ w_.cell? ⟨w.heap.size + 1, 3, none⟩ = some (.slice none 0 0) ∧ P) : TbS w z2 A m c3 w_ := by
 obtain ⟨h1, h2, h3, h4, h5, h6, h7, h8, _⟩ := h
 exact ⟨h1, h2, h3, h4, h5, h6, h7, h8⟩
theorem TbS.call {w wx wy : World} {z2 : ByteArray} {A : Option Addr} {m c3 : Nat} (h : TbS w z2 A m c3 wx) (hb : Below wx.heap.size wx wy) : TbS w z2 A m c3 wy := by
 obtain ⟨h1, h2, h3, h4, h5, h6, h7, h8⟩ := h
 have g : ∀ j : Nat, wy.cell? ⟨w.heap.size, j, none⟩ = wx.cell? ⟨w.heap.size, j, none⟩ := fun j => hb.cell (p := ⟨w.heap.size, j, none⟩) (by show w.heap.size < _; omega)
 have g2 : ∀ j : Nat, wy.cell? ⟨w.heap.size + 1, j, none⟩ = wx.cell? ⟨w.heap.size + 1, j, none⟩ := fun j => hb.cell (p := ⟨w.heap.size + 1, j, none⟩) h2
 exact ⟨h1.trans (hb.mono h1.size), Nat.lt_of_lt_of_le h2 hb.size, (g 2).trans h3, (g 3).trans h4, (g2 0).trans h5, (g2 1).trans h6, (g2 2).trans h7, (g2 3).trans h8⟩
theorem TbS.drew {w wx : World} {z2 : ByteArray} {A : Option Addr} {m c3 : Nat} (h : TbS w z2 A m c3 wx) : TbS w z2 A m c3 wx.drew := by
 obtain ⟨h1, h2, h3⟩ := h
 exact ⟨below_drw h1, h2, h3⟩
theorem tbS_new (w : World) (z0 z1 : Int) (z2 : ByteArray) (A : Option Addr) (m c3 : Nat) : TbS w z2 A m c3 ((w.alloc (.cells #[.int .i64 z0, .int .i64 z1, .string z2, .slice A m c3] 44)).alloc (.cells #[.int .i64 4, .int .i64 0, .string ⟨#[116, 104, 105, 115]⟩, .slice none 0 0] 44)) := by
 have b1 : Blk ((w.alloc (.cells #[.int .i64 z0, .int .i64 z1, .string z2, .slice A m c3] 44)).alloc (.cells #[.int .i64 4, .int .i64 0, .string ⟨#[116, 104, 105, 115]⟩, .slice none 0 0] 44)) w.heap.size 44 #[.int .i64 z0, .int .i64 z1, .string z2, .slice A m c3] := (Blk.new w _ _).alloc _
 have b2 := Blk.new' (w.alloc (.cells #[.int .i64 z0, .int .i64 z1, .string z2, .slice A m c3] 44)) 44 #[.int .i64 4, .int .i64 0, .string ⟨#[116, 104, 105, 115]⟩, .slice none 0 0] (w.heap.size + 1) qag
 exact ⟨((Below.refl w.heap.size w).alloc nr _).alloc qag _, by simp, b1.cell 2, b1.cell 3, b2.cell 0, b2.cell 1, b2.cell 2, b2.cell 3⟩
theorem thS_24 (z1 : Int) (z2 : ByteArray) (z3 : List FNode) (hw : (FNode.mk 24 z1 z2 z3).wt ≤ 9000000000) : SaB 57 (FNode.mk 24 z1 z2 z3) (isTh z2) := by
 have Tf (w : World) A m c := tbS_new w 24 z1 z2 A m c
 exact zz35
theorem thS_25 (z1 : Int) (z2 : ByteArray) (z3 : List FNode) (hw : (FNode.mk 25 z1 z2 z3).wt ≤ 9000000000) : SaB 57 (FNode.mk 25 z1 z2 z3) (isTh z2) := by
 have Tf (w : World) A m c := tbS_new w 25 z1 z2 A m c
 exact zz35
theorem thS_40 (z1 : Int) (z2 : ByteArray) (z3 : List FNode) (hw : (FNode.mk 40 z1 z2 z3).wt ≤ 9000000000) : SaB 57 (FNode.mk 40 z1 z2 z3) (isTh z2) := by
 have Tf (w : World) A m c := tbS_new w 40 z1 z2 A m c
 exact zz35
theorem thS_17 (z1 : Int) (z2 : ByteArray) (z3 : List FNode) (hw : (FNode.mk 17 z1 z2 z3).wt ≤ 9000000000) (hk1 : 1 ≤ z3.length) : SaB 57 (FNode.mk 17 z1 z2 z3) (isTh z2 || hdSm z3) := by
 intro us w B hB0 hr
 obtain ⟨A3, c3, rfl, r3⟩ := hr.node
 have hww := hw
 rw [FNode.wt_eq] at hw
 have hz : z2.size ≤ 9223372036854775807 := qaa
 have hl : z3.length ≤ 9000000000 := qaa
 obtain ⟨m, hm⟩ : ∃ m, z3.length = m := ⟨_, rfl⟩
 try rw [hm] at hl r3 ⊢
 have HR := hid r3
 have TX0 := tbS_new w 17 z1 z2 A3 m c3
 clear hr r3
 obtain ⟨⟨y0, y1, y2, y3⟩, r, rfl⟩ : ∃ a r, z3 = a :: r := by
  exact zz51
 have hpos : 0 < m := by rw [← hm]; simp
 have hyy : (FNode.mk y0 y1 y2 y3).wt ≤ 9000000000 := by have := FNode.wts_at (FNode.mk y0 y1 y2 y3 :: r) _ (List.mem_cons_self ..); omega
 obtain ⟨bcy, offcy, Ey, hblcy, hcc⟩ := nd_at hm.symm (l := (FNode.mk y0 y1 y2 y3 :: r)) HR.out (i := 0) (x := FNode.mk y0 y1 y2 y3) rfl
 obtain ⟨Dy, dy, cy_0, cy_1, cy_2, cy_3, q3⟩ := opN (Below.refl w.heap.size w) qaa hcc (offcy) (offcy + 1) (offcy + 2) (offcy + 3) qaa
 have Qy := hid q3
 clear hcc q3
 have hbl : bcy < w.heap.size := Nat.lt_of_lt_of_le hblcy hB0
 subst Ey
 clear hm hw hww hk1
 have HT := hid (show isTh z2 = (z2.toList == [116, 104, 105, 115]) from rfl)
 obtain ⟨sv, hsv⟩ : ∃ v, smT ⟨y0, y1, y2, y3⟩ = v := ⟨_, rfl⟩
 have HSV := hid hsv
 have HY := hid (show hdSm (FNode.mk y0 y1 y2 y3 :: r) = sv from hsv)
 rw [HT.out, HY.out]
 clear HT HY hsv
 cases ht : (z2.toList == [116, 104, 105, 115]) with
 | true =>
  go_enter Tryz.func57, Tryz.ntmps57
  go_wp2_with fail
  refine wp_region_held_drew (S := (fun w_ => Below w.heap.size w w_ ∧ w.heap.size + 1 < w_.heap.size ∧ w_.cell? ⟨w.heap.size, 2, none⟩ = some (.string z2) ∧ w_.cell? ⟨w.heap.size, 3, none⟩ = some (.slice (some ⟨bcy, offcy, none⟩) m c3) ∧ w_.cell? ⟨w.heap.size + 1, 0, none⟩ = some (.int .i64 4) ∧ w_.cell? ⟨w.heap.size + 1, 1, none⟩ = some (.int .i64 0) ∧ w_.cell? ⟨w.heap.size + 1, 2, none⟩ = some (.string ⟨#[116, 104, 105, 115]⟩) ∧ w_.cell? ⟨w.heap.size + 1, 3, none⟩ = some (.slice none 0 0) ∧ w_.cell? ⟨bcy, offcy, none⟩ = some (.int .i64 y0) ∧ w_.cell? ⟨bcy, offcy + 1, none⟩ = some (.int .i64 y1) ∧ w_.cell? ⟨bcy, offcy + 2, none⟩ = some (.string y2) ∧ w_.cell? ⟨bcy, offcy + 3, none⟩ = some (.slice Dy y3.length dy))) qab ?_ (fun hHeld => ?_)
  ·exact zz9
  iterate 4 (refine rgt rfl rfl qz qad ?_; try simp only [aS])
  iterate 6 (refine rgS rfl qab rfl (fun _ _ _ h => h) qar qad ?_; try simp only [aS])
  iterate 2 (refine rgt rfl rfl qz qad ?_; try simp only [aS])
  refine wpAnyH_done qab ?_ _
  go_wp2_with fail
  go_ret
  exact ⟨ret_bool (rfl), below_drw TX0.1⟩
 | false =>
  go_enter Tryz.func57, Tryz.ntmps57
  go_wp2_with fail
  refine wp_region_held_drew (S := (fun w_ => Below w.heap.size w w_ ∧ w.heap.size + 1 < w_.heap.size ∧ w_.cell? ⟨w.heap.size, 2, none⟩ = some (.string z2) ∧ w_.cell? ⟨w.heap.size, 3, none⟩ = some (.slice (some ⟨bcy, offcy, none⟩) m c3) ∧ w_.cell? ⟨w.heap.size + 1, 0, none⟩ = some (.int .i64 4) ∧ w_.cell? ⟨w.heap.size + 1, 1, none⟩ = some (.int .i64 0) ∧ w_.cell? ⟨w.heap.size + 1, 2, none⟩ = some (.string ⟨#[116, 104, 105, 115]⟩) ∧ w_.cell? ⟨w.heap.size + 1, 3, none⟩ = some (.slice none 0 0) ∧ w_.cell? ⟨bcy, offcy, none⟩ = some (.int .i64 y0) ∧ w_.cell? ⟨bcy, offcy + 1, none⟩ = some (.int .i64 y1) ∧ w_.cell? ⟨bcy, offcy + 2, none⟩ = some (.string y2) ∧ w_.cell? ⟨bcy, offcy + 3, none⟩ = some (.slice Dy y3.length dy))) qab ?_ (fun hHeld => ?_)
  ·exact zz9
  iterate 9 (refine rgt rfl rfl qz qad ?_; try simp only [aS])
  refine regCall (i := 9) qab rfl qar (fun K hK => ?_)
  go_simp
  (go_at_call 92; have TH5 : TbS w z2 (some ⟨bcy, offcy, none⟩) m c3 _ := TbS.of hHeld; refine (same_this ⟨y0, y1, y2, y3⟩ hyy [.int .i64 y0, .int .i64 y1, .string y2, .slice Dy y3.length dy] _ B (Nat.le_trans hB0 hHeld.1.size) (ndV (Qy.out.below hHeld.1 hB0))).mono ?_; rw [HSV.out]; rintro e w5 ⟨rfl, hb5⟩; have TX5 := TH5.call hb5)
  refine hK.out _ _ ?_ (fun hHeld => ?_)
  ·exact zz9
  exact zz124
theorem thS_44 (z1 : Int) (z2 : ByteArray) (z3 : List FNode) (hw : (FNode.mk 44 z1 z2 z3).wt ≤ 9000000000) (hk1 : 1 ≤ z3.length) : SaB 57 (FNode.mk 44 z1 z2 z3) (hdSm z3) := by
 intro us w B hB0 hr
 obtain ⟨A3, c3, rfl, r3⟩ := hr.node
 have hww := hw
 rw [FNode.wt_eq] at hw
 have hz : z2.size ≤ 9223372036854775807 := qaa
 have hl : z3.length ≤ 9000000000 := qaa
 obtain ⟨m, hm⟩ : ∃ m, z3.length = m := ⟨_, rfl⟩
 try rw [hm] at hl r3 ⊢
 have HR := hid r3
 have TX0 := tbS_new w 44 z1 z2 A3 m c3
 clear hr r3
 obtain ⟨⟨y0, y1, y2, y3⟩, r, rfl⟩ : ∃ a r, z3 = a :: r := by
  exact zz51
 have hpos : 0 < m := by rw [← hm]; simp
 have hyy : (FNode.mk y0 y1 y2 y3).wt ≤ 9000000000 := by have := FNode.wts_at (FNode.mk y0 y1 y2 y3 :: r) _ (List.mem_cons_self ..); omega
 obtain ⟨bcy, offcy, Ey, hblcy, hcc⟩ := nd_at hm.symm (l := (FNode.mk y0 y1 y2 y3 :: r)) HR.out (i := 0) (x := FNode.mk y0 y1 y2 y3) rfl
 obtain ⟨Dy, dy, cy_0, cy_1, cy_2, cy_3, q3⟩ := opN (Below.refl w.heap.size w) qaa hcc (offcy) (offcy + 1) (offcy + 2) (offcy + 3) qaa
 have Qy := hid q3
 clear hcc q3
 have hbl : bcy < w.heap.size := Nat.lt_of_lt_of_le hblcy hB0
 subst Ey
 clear hm hw hww hk1
 obtain ⟨sv, hsv⟩ : ∃ v, smT ⟨y0, y1, y2, y3⟩ = v := ⟨_, rfl⟩
 have HSV := hid hsv
 have HY := hid (show hdSm (FNode.mk y0 y1 y2 y3 :: r) = sv from hsv)
 rw [HY.out]
 clear HY hsv
 go_enter Tryz.func57, Tryz.ntmps57
 go_wp2_with fail
 refine wp_region_held_drew (S := (fun w_ => Below w.heap.size w w_ ∧ w.heap.size + 1 < w_.heap.size ∧ w_.cell? ⟨w.heap.size, 2, none⟩ = some (.string z2) ∧ w_.cell? ⟨w.heap.size, 3, none⟩ = some (.slice (some ⟨bcy, offcy, none⟩) m c3) ∧ w_.cell? ⟨w.heap.size + 1, 0, none⟩ = some (.int .i64 4) ∧ w_.cell? ⟨w.heap.size + 1, 1, none⟩ = some (.int .i64 0) ∧ w_.cell? ⟨w.heap.size + 1, 2, none⟩ = some (.string ⟨#[116, 104, 105, 115]⟩) ∧ w_.cell? ⟨w.heap.size + 1, 3, none⟩ = some (.slice none 0 0) ∧ w_.cell? ⟨bcy, offcy, none⟩ = some (.int .i64 y0) ∧ w_.cell? ⟨bcy, offcy + 1, none⟩ = some (.int .i64 y1) ∧ w_.cell? ⟨bcy, offcy + 2, none⟩ = some (.string y2) ∧ w_.cell? ⟨bcy, offcy + 3, none⟩ = some (.slice Dy y3.length dy))) qab ?_ (fun hHeld => ?_)
 ·exact zz9
 iterate 5 (refine rgt rfl rfl qz qad ?_; try simp only [aS])
 refine regCall (i := 5) qab rfl qar (fun K hK => ?_)
 go_simp
 (go_at_call 92; have TH5 : TbS w z2 (some ⟨bcy, offcy, none⟩) m c3 _ := TbS.of hHeld; refine (same_this ⟨y0, y1, y2, y3⟩ hyy [.int .i64 y0, .int .i64 y1, .string y2, .slice Dy y3.length dy] _ B (Nat.le_trans hB0 hHeld.1.size) (ndV (Qy.out.below hHeld.1 hB0))).mono ?_; rw [HSV.out]; rintro e w5 ⟨rfl, hb5⟩; have TX5 := TH5.call hb5)
 refine hK.out _ _ ?_ (fun hHeld => ?_)
 ·exact zz9
 clear hK K
 try simp only [aS]
 refine regTake (i := 6) (v := ?_) rfl qab qab qab (fun _ _ _ h => h) qar ?_ qad ?_
 rotate_left
 ·intro w_ hSw
  (try dsimp only at hSw)
  exact zz24
 try simp only [aS]
 refine wpAnyH_done qab ?_ _
 go_wp2_with fail
 go_ret
 exact ⟨ret_bool qal, TX5.1⟩
theorem thS_15 (z1 : Int) (z2 : ByteArray) (z3 : List FNode) (hw : (FNode.mk 15 z1 z2 z3).wt ≤ 9000000000) (hk1 : 1 ≤ z3.length) : SaB 57 (FNode.mk 15 z1 z2 z3) (hdRs z3) := by
 have Tf (w : World) A m c := tbS_new w 15 z1 z2 A m c
 exact zz1
theorem thS_16 (z1 : Int) (z2 : ByteArray) (z3 : List FNode) (hw : (FNode.mk 16 z1 z2 z3).wt ≤ 9000000000) (hk1 : 1 ≤ z3.length) : SaB 57 (FNode.mk 16 z1 z2 z3) (hdRs z3) := by
 have Tf (w : World) A m c := tbS_new w 16 z1 z2 A m c
 exact zz1
theorem thS_41 (z1 : Int) (z2 : ByteArray) (z3 : List FNode) (hw : (FNode.mk 41 z1 z2 z3).wt ≤ 9000000000) (hk1 : 1 ≤ z3.length) : SaB 57 (FNode.mk 41 z1 z2 z3) (hdRs z3) := by
 have Tf (w : World) A m c := tbS_new w 41 z1 z2 A m c
 exact zz1
theorem thS_46 (z1 : Int) (z2 : ByteArray) (z3 : List FNode) (hw : (FNode.mk 46 z1 z2 z3).wt ≤ 9000000000) : SaB 57 (FNode.mk 46 z1 z2 z3) (z3.length == 2 && hdSm z3) := by
 intro us w B hB0 hr
 obtain ⟨A3, c3, rfl, r3⟩ := hr.node
 have hww := hw
 rw [FNode.wt_eq] at hw
 have hz : z2.size ≤ 9223372036854775807 := qaa
 have hl : z3.length ≤ 9000000000 := qaa
 obtain ⟨m, hm⟩ : ∃ m, z3.length = m := ⟨_, rfl⟩
 try rw [hm] at hl r3 ⊢
 have HR := hid r3
 have TX0 := tbS_new w 46 z1 z2 A3 m c3
 clear hr r3
 by_cases h2 : m = 2
 ·subst h2
  obtain ⟨⟨y0, y1, y2, y3⟩, yb, rfl⟩ := two_of hm
  have hyy : (FNode.mk y0 y1 y2 y3).wt ≤ 9000000000 := by have := FNode.wts_at [FNode.mk y0 y1 y2 y3, yb] _ (List.mem_cons_self ..); omega
  obtain ⟨bcy, offcy, Ey, hblcy, hcc⟩ := RdC.at_ (l := [FNode.mk y0 y1 y2 y3, yb]) FNode.len HR.out (i := 0) (x := FNode.mk y0 y1 y2 y3) rfl
  obtain ⟨Dy, dy, cy_0, cy_1, cy_2, cy_3, q3⟩ := opN (Below.refl w.heap.size w) qaa hcc (offcy) (offcy + 1) (offcy + 2) (offcy + 3) qaa
  have Qy := hid q3
  clear hcc q3
  have hbl : bcy < w.heap.size := Nat.lt_of_lt_of_le hblcy hB0
  subst Ey
  clear hm hw hww
  obtain ⟨sv, hsv⟩ : ∃ v, smT ⟨y0, y1, y2, y3⟩ = v := ⟨_, rfl⟩
  have HSV := hid hsv
  have HY := hid (show (2 == 2 && hdSm [FNode.mk y0 y1 y2 y3, yb]) = sv from hsv)
  rw [HY.out]
  clear HY hsv
  go_enter Tryz.func57, Tryz.ntmps57
  go_wp2_with fail
  refine wp_region_held_drew (S := (fun w_ => Below w.heap.size w w_ ∧ w.heap.size + 1 < w_.heap.size ∧ w_.cell? ⟨w.heap.size, 2, none⟩ = some (.string z2) ∧ w_.cell? ⟨w.heap.size, 3, none⟩ = some (.slice (some ⟨bcy, offcy, none⟩) 2 c3) ∧ w_.cell? ⟨w.heap.size + 1, 0, none⟩ = some (.int .i64 4) ∧ w_.cell? ⟨w.heap.size + 1, 1, none⟩ = some (.int .i64 0) ∧ w_.cell? ⟨w.heap.size + 1, 2, none⟩ = some (.string ⟨#[116, 104, 105, 115]⟩) ∧ w_.cell? ⟨w.heap.size + 1, 3, none⟩ = some (.slice none 0 0) ∧ w_.cell? ⟨bcy, offcy, none⟩ = some (.int .i64 y0) ∧ w_.cell? ⟨bcy, offcy + 1, none⟩ = some (.int .i64 y1) ∧ w_.cell? ⟨bcy, offcy + 2, none⟩ = some (.string y2) ∧ w_.cell? ⟨bcy, offcy + 3, none⟩ = some (.slice Dy y3.length dy))) qab ?_ (fun hHeld => ?_)
  ·exact zz9
  iterate 10 (refine rgt rfl rfl qz qad ?_; try simp only [aS])
  refine regCall (i := 10) qab rfl qar (fun K hK => ?_)
  go_simp
  (go_at_call 92; have TH5 : TbS w z2 (some ⟨bcy, offcy, none⟩) 2 c3 _ := TbS.of hHeld; refine (same_this ⟨y0, y1, y2, y3⟩ hyy [.int .i64 y0, .int .i64 y1, .string y2, .slice Dy y3.length dy] _ B (Nat.le_trans hB0 hHeld.1.size) (ndV (Qy.out.below hHeld.1 hB0))).mono ?_; rw [HSV.out]; rintro e w5 ⟨rfl, hb5⟩; have TX5 := TH5.call hb5)
  refine hK.out _ _ ?_ (fun hHeld => ?_)
  ·exact zz9
  exact zz124
 ·clear hm hw hww
  rw [show (m == 2) = false from beq_false_of_ne h2]
  have hm2 : ((m : Int) == 2) = false := beq_false_of_ne qaa
  go_enter Tryz.func57, Tryz.ntmps57
  go_wp2_with fail
  refine wp_region_held_drew (S := (fun w_ => Below w.heap.size w w_ ∧ w.heap.size + 1 < w_.heap.size ∧ w_.cell? ⟨w.heap.size, 2, none⟩ = some (.string z2) ∧ w_.cell? ⟨w.heap.size, 3, none⟩ = some (.slice A3 m c3) ∧ w_.cell? ⟨w.heap.size + 1, 0, none⟩ = some (.int .i64 4) ∧ w_.cell? ⟨w.heap.size + 1, 1, none⟩ = some (.int .i64 0) ∧ w_.cell? ⟨w.heap.size + 1, 2, none⟩ = some (.string ⟨#[116, 104, 105, 115]⟩) ∧ w_.cell? ⟨w.heap.size + 1, 3, none⟩ = some (.slice none 0 0))) qab ?_ (fun hHeld => ?_)
  ·(try dsimp only)
   (first | exact ⟨TX0.drew.1, TX0.drew.2.1, TX0.drew.2.2.1, TX0.drew.2.2.2.1, TX0.drew.2.2.2.2.1, TX0.drew.2.2.2.2.2.1, TX0.drew.2.2.2.2.2.2.1, TX0.drew.2.2.2.2.2.2.2⟩ | exact ⟨TX6.1, TX6.2.1, TX6.2.2.1, TX6.2.2.2.1, TX6.2.2.2.2.1, TX6.2.2.2.2.2.1, TX6.2.2.2.2.2.2.1, TX6.2.2.2.2.2.2.2⟩ | exact ⟨TX5.1, TX5.2.1, TX5.2.2.1, TX5.2.2.2.1, TX5.2.2.2.2.1, TX5.2.2.2.2.2.1, TX5.2.2.2.2.2.2.1, TX5.2.2.2.2.2.2.2⟩ | exact ⟨TX4.1, TX4.2.1, TX4.2.2.1, TX4.2.2.2.1, TX4.2.2.2.2.1, TX4.2.2.2.2.2.1, TX4.2.2.2.2.2.2.1, TX4.2.2.2.2.2.2.2⟩)
  iterate 5 (refine rgt rfl rfl qz qad ?_; try simp only [aS])
  iterate 6 (refine rgS rfl qab rfl (fun _ _ _ h => h) qar qad ?_; try simp only [aS])
  iterate 2 (refine rgt rfl rfl qz qad ?_; try simp only [aS])
  refine wpAnyH_done qab ?_ _
  go_wp2_with fail
  go_ret
  exact ⟨ret_bool (rfl), below_drw TX0.1⟩
end Go.Proofs.YtkkjnfappndmpaaGreatDoor
