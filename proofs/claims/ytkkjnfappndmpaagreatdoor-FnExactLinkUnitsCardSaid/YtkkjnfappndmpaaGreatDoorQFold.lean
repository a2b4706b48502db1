/-
 Blocks of steps that stand in many proofs: each is run where its name stands. Conditions: none.
-/
import Derived.Test.YtkkjnfappndmpaaGreatDoorProg
import Derived.Below
import Derived.BigQuiet
import Derived.ChangeOld
import Derived.Deep.AppendLies
import Derived.Deep.CutBlock
import Derived.Deep.CutRange
import Derived.Deep.DeepCutAuto
import Derived.Deep.DeepMust
import Derived.Deep.Fields
import Derived.Deep.LoopGhost
import Derived.Deep.OwnRows
import Derived.Deep.QuietTactic
import Derived.Deep.RegionHeld3
import Derived.Deep.Slices
import Derived.Ground.NamesProg
import Derived.HandedShaped
import Derived.LaidMore
import Derived.Laws.BytesArg
import Derived.Laws.MakeOwn
import Derived.Laws.NewDeep
import Derived.Laws.OwnMore
import Derived.Lay
import Derived.Lib.CutLaws
import Derived.Lib.Hide
import Derived.Lib.Index
import Derived.Lib.SmallJoins
import Derived.Lib.SplitLaws
import Derived.Maps.AppendAt
import Derived.Maps.OwnSet
import Derived.OpenShut
import Derived.OwnWalk
import Derived.ProofKit
import Derived.RegionTactic
import Derived.SevenTiedAt
import Derived.Shelf.Lay
import Derived.Shelf.LaysM
import Derived.Shelf.Strings.Cut
import Derived.Shelf.Strings.OnBuilder
import Derived.Shelf.Strings.Shaped
import Derived.Shelf.Strings.Split
import Derived.ShutString
import Derived.StillTailTactics
import Derived.Stop.Joined
import Derived.WalkKit
import Derived.WalkLawsBesides
import Derived.WalkSmall
import Derived.WalkSpells
namespace Go.Proofs.YtkkjnfappndmpaaGreatDoor
open Go.ChangeShapes Go.WideShapes Go.ChangeAt Go.RowKit Go.Deep Go.Joins
theorem nr {n : Nat} : n ≤ n := Nat.le_refl n
theorem zkp {P : Program} {f : FuncId} {a : Array Value} {w : World} {r : Ending} {R : Ending → World → Prop} (h : Calls P f a w fun e w' => e = r ∧ w = w') (k : R r w) : Calls P f a w R :=
 h.mono fun e w' ⟨h1, h2⟩ => by subst h1; subst h2; exact k
theorem qz {P : Prop} (h : P := by intro w_ hSw; (try dsimp only at hSw); go_simp; (try with_reducible rfl); done) : P := h
theorem qaa {P : Prop} (h : P := by omega) : P := h
theorem qab {P : Prop} (h : P := by kernel_rfl) : P := h
theorem qac {P : Prop} (h : P := by rw [EX.out]; exact fZ) : P := h
theorem qad {P : Prop} (h : P := by assumption) : P := h
theorem qae {P : Prop} (h : P := by decide) : P := h
theorem qaf {P : Prop} (h : P := by unfold RdC; rfl) : P := h
theorem qag {P : Prop} (h : P := by simp) : P := h
theorem qah {P : Prop} (h : P := by rw [← HP0.out, HP.out]) : P := h
theorem qai {P : Prop} (h : P := by exact fZ) : P := h
theorem qaj {P : Prop} (h : P := by first | rfl | exact emT_b _ | simp [emT_b]) : P := h
theorem qak {P : Prop} (h : P := by simp; omega) : P := h
theorem qal {P : Prop} (h : P := by first | rfl | (simp_all; done)) : P := h
theorem qam {P : Prop} (h : P := by simp [results, Tryz.results43, go_sem, bR0, bR1, bR2, bR3, bRl, bRf, bC0, bC1, bC2, bC3]) : P := h
theorem qan {P : Prop} (h : P := by simp [results, Tryz.results17, go_sem]) : P := h
theorem qao {P : Prop} (h : P := by unfold maxLen; omega) : P := h
theorem qap {P : Prop} (h : P := by first | rfl | simp [emT_b]) : P := h
theorem qaq {P : Prop} (h : P := by rw [hsp]; exact mid_get hD0 rfl) : P := h
theorem qar {P : Prop} (h : P := by rfl) : P := h
theorem qas {P : Prop} (h : P := by simp only [List.append_assoc, List.cons_append, List.nil_append] at P1 ⊢; exact P1) : P := h
theorem qat {P : Prop} (h : P := by simp only [List.append_assoc, List.cons_append, List.nil_append] at P2 ⊢; exact P2) : P := h
theorem qau {P : Prop} (h : P := by have := kid_sz (x := ⟨k, z1, z2, z3⟩) (y := y) hy; omega) : P := h
theorem qav {P : Prop} (h : P := by show wr.heap.size < _; simp) : P := h
theorem qaw {P : Prop} (h : P := by rw [FUnit.c_eq]; exact (RdVs.cons (by unfold RdC; rfl) (RdVs.cons (by unfold RdC; rfl) (RdVs.cons (by unfold RdC; rfl) (RdVs.cons (by unfold RdC; rfl) (RdVs.cons (R4.out.below hb (Nat.le_refl _)) (RdVs.nil _ _))))))) : P := h
theorem qax {P : Prop} (h : P := by simp only [List.append_assoc, List.cons_append, List.nil_append] at P3 ⊢; exact P3) : P := h
theorem qay {P : Prop} (h : P := by rw [EX.out, all_f HX.out (by rw [IT.out]; exact fZ), Bool.and_false]) : P := h
theorem qaz {P : Prop} (h : P := by rw [FMethod.c_eq]; exact (RdVs.cons (by unfold RdC; rfl) (RdVs.cons (by unfold RdC; rfl) (RdVs.cons (by unfold RdC; rfl) (RdVs.cons (by unfold RdC; rfl) (RdVs.cons (by unfold RdC; rfl) (RdVs.nil _ _))))))) : P := h
theorem qa0 {P : Prop} (h : P := by rw [EX2.out, all_f HX.out HTE.out]) : P := h
theorem qa1 {P : Prop} (h : P := by intro u hu; simp only [List.mem_cons, List.not_mem_nil, or_false] at hu; rcases hu with rfl; rfl) : P := h
theorem qa2 {P : Prop} (h : P := by have h1 := HV.out; rw [FNode.wt_eq] at h1; have h2 := FNode.wts_at (FNode.mk a0 a1 a2 a3 :: r) _ (List.mem_cons_self ..); omega) : P := h
theorem qa3 {P : Prop} (h : P := by simpa using e0) : P := h
theorem qa4 {P : Prop} (h : P := by simpa using e1) : P := h
theorem qa5 {P : Prop} (h : P := by simpa using e2) : P := h
theorem qa6 {P : Prop} (h : P := by simpa using e3) : P := h
theorem qa7 {P : Prop} (h : P := by rw [FNode.c_eq]; exact (RdVs.cons (by unfold RdC; rfl) (RdVs.cons (by unfold RdC; rfl) (RdVs.cons (by unfold RdC; rfl) (RdVs.cons (R3.out.below hb (Nat.le_refl _)) (RdVs.nil _ _)))))) : P := h
theorem qa8 {P : Prop} (h : P := by show w.heap.size < _; simp) : P := h
theorem qa9 {P : Prop} (h : P := by rw [FNode.c_eq]; exact (RdVs.cons (by unfold RdC; rfl) (RdVs.cons (by unfold RdC; rfl) (RdVs.cons (by unfold RdC; rfl) (RdVs.cons (R4.out.below hB hB0) (RdVs.nil _ _)))))) : P := h
theorem qba {P : Prop} (h : P := by simp [results, Tryz.results78, go_sem, b0, b1, b2, b3, b4, bl, bf]) : P := h
theorem qbb {P : Prop} (h : P := by simp [results, Tryz.results62, go_sem, b0, b1, b2, b3, b4, bl, bf]) : P := h
theorem qbc {P : Prop} (h : P := by unfold partF; rw [HT.out, Bool.and_true]; first | exact decide_eq_decide.2 (by omega) | (unfold inB; rw [← Bool.decide_and]; exact decide_eq_decide.2 (by omega))) : P := h
theorem qbd {P : Prop} (h : P := by simp [HD.out]) : P := h
theorem qbe {P : Prop} (h : P := by have := h y hy; exact ⟨by omega, by omega⟩) : P := h
theorem qbf {P : Prop} (h : P := by have := HB5.out.size; simp; omega) : P := h
theorem qbg {P : Prop} (h : P := by rw [← HF.out, ← HDR.out]; exact HFO.out) : P := h
theorem qbh {P : Prop} (h : P := by simp [results, Tryz.results7, go_sem]) : P := h
theorem qbi {P : Prop} (h : P := by simp [results, Tryz.results5, go_sem]) : P := h
theorem qbj {P : Prop} (h : P := by first | exact EX2.out | (rw [← EX2.out]; simp; omega)) : P := h
theorem qbk {P : Prop} (h : P := by rw [← HFO.out, HDR.out, HF.out]) : P := h
theorem qbl {P : Prop} (h : P := by simp <;> omega) : P := h
theorem qbm {P : Prop} (h : P := by show w3.heap.size < _; simp) : P := h
theorem qbn {P : Prop} (h : P := by simpa using e4) : P := h
theorem qbo {P : Prop} (h : P := by first | rfl | simp_all [statL]) : P := h
theorem qbp {P : Prop} (h : P := by rw [HRr.out]; exact h0) : P := h
theorem qbq {P : Prop} (h : P := by rw [IT.out]; exact fZ) : P := h
theorem qbr {P : Prop} (h : P := by rw [hm]; simp; omega) : P := h
theorem qbs {P : Prop} (h : P := by show w0.heap.size ≤ bc; exact h.hbc) : P := h
theorem qbt {P : Prop} (h : P := by rw [slash_size]; exact Nat.le_refl _) : P := h
theorem qbu {P : Prop} (h : P := by have := h'.be.size; omega) : P := h
theorem zz0 {P : Prop} (h : P := by
 go_wp2_with ((go_at_call 53; refine FDC.out.mono ?_; rintro e w3 ⟨rfl, hb3⟩; have HB3 := hid (HB.out.trans (hb3.mono HB.out.size)); have ⟨bx_w3_0, bx_w3_1, bx_w3_2, bx_w3_3⟩ := box4 hb3; have sz_w3 := szA hb3))
 all_goals (first | (go_ret; exact ⟨ret_bool qai, Hid.out qad⟩))) : P := h
theorem zz1 {P : Prop} (h : P := by
 intro us w B hB0 hr
 obtain ⟨A3, c3, rfl, r3⟩ := hr.node
 have hww := hw
 rw [FNode.wt_eq] at hw
 have hz : z2.size ≤ 9223372036854775807 := qaa
 have hl : z3.length ≤ 9000000000 := qaa
 obtain ⟨m, hm⟩ : ∃ m, z3.length = m := ⟨_, rfl⟩
 try rw [hm] at hl r3 ⊢
 have HR := hid r3
 have TX0 := Tf w A3 m c3
 clear hr r3
 obtain ⟨⟨y0, y1, y2, y3⟩, r, rfl⟩ : ∃ a r, z3 = a :: r := by
  cases z3 with
  | nil => simp at hk1
  | cons a r => exact ⟨a, r, rfl⟩
 have hpos : 0 < m := by rw [← hm]; simp
 have hyy : (FNode.mk y0 y1 y2 y3).wt ≤ 9000000000 := by have := FNode.wts_at (FNode.mk y0 y1 y2 y3 :: r) _ (List.mem_cons_self ..); omega
 obtain ⟨bcy, offcy, Ey, hblcy, hcc⟩ := nd_at hm.symm (l := (FNode.mk y0 y1 y2 y3 :: r)) HR.out (i := 0) (x := FNode.mk y0 y1 y2 y3) rfl
 obtain ⟨Dy, dy, cy_0, cy_1, cy_2, cy_3, q3⟩ := opN (Below.refl w.heap.size w) qaa hcc (offcy) (offcy + 1) (offcy + 2) (offcy + 3) qaa
 have Qy := hid q3
 clear hcc q3
 have hbl : bcy < w.heap.size := Nat.lt_of_lt_of_le hblcy hB0
 subst Ey
 clear hm hw hww hk1
 obtain ⟨sv, hsv⟩ : ∃ v, smT (rootF ⟨y0, y1, y2, y3⟩) = v := ⟨_, rfl⟩
 have HSV := hid hsv
 have HY := hid (show hdRs (FNode.mk y0 y1 y2 y3 :: r) = sv from hsv)
 rw [HY.out]
 clear HY hsv
 go_enter Tryz.func57, Tryz.ntmps57
 go_wp2_with fail
 refine wp_region_held_drew (S := (fun w_ => Below w.heap.size w w_ ∧ w.heap.size + 1 < w_.heap.size ∧ w_.cell? ⟨w.heap.size, 2, none⟩ = some (.string z2) ∧ w_.cell? ⟨w.heap.size, 3, none⟩ = some (.slice (some ⟨bcy, offcy, none⟩) m c3) ∧ w_.cell? ⟨w.heap.size + 1, 0, none⟩ = some (.int .i64 4) ∧ w_.cell? ⟨w.heap.size + 1, 1, none⟩ = some (.int .i64 0) ∧ w_.cell? ⟨w.heap.size + 1, 2, none⟩ = some (.string ⟨#[116, 104, 105, 115]⟩) ∧ w_.cell? ⟨w.heap.size + 1, 3, none⟩ = some (.slice none 0 0) ∧ w_.cell? ⟨bcy, offcy, none⟩ = some (.int .i64 y0) ∧ w_.cell? ⟨bcy, offcy + 1, none⟩ = some (.int .i64 y1) ∧ w_.cell? ⟨bcy, offcy + 2, none⟩ = some (.string y2) ∧ w_.cell? ⟨bcy, offcy + 3, none⟩ = some (.slice Dy y3.length dy))) qab ?_ (fun hHeld => ?_)
 ·(try dsimp only)
  (first | exact TX0.drew.and (cell4 TX0.drew.1 hbl cy_0 cy_1 cy_2 cy_3) | exact TX6.and (cell4 TX6.1 hbl cy_0 cy_1 cy_2 cy_3) | exact TX5.and (cell4 TX5.1 hbl cy_0 cy_1 cy_2 cy_3) | exact TX4.and (cell4 TX4.1 hbl cy_0 cy_1 cy_2 cy_3))
 refine regTake (i := 0) (v := ?_) rfl qab qab qab (fun _ _ _ h => h) qar ?_ qad ?_
 rotate_left
 ·intro w_ hSw
  (try dsimp only at hSw)
  go_simp
  (try with_reducible rfl)
 try simp only [aS]
 refine regTake (i := 1) (v := ?_) rfl qab qab qab (fun _ _ _ h => h) qar ?_ qad ?_
 rotate_left
 ·intro w_ hSw
  (try dsimp only at hSw)
  go_simp
  (try with_reducible rfl)
 try simp only [aS]
 refine regTake (i := 2) (v := ?_) rfl qab qab qab (fun _ _ _ h => h) qar ?_ qad ?_
 rotate_left
 ·intro w_ hSw
  (try dsimp only at hSw)
  go_simp
  (try with_reducible rfl)
 try simp only [aS]
 refine regTake (i := 3) (v := ?_) rfl qab qab qab (fun _ _ _ h => h) qar ?_ qad ?_
 rotate_left
 ·intro w_ hSw
  (try dsimp only at hSw)
  go_simp
  (try with_reducible rfl)
 try simp only [aS]
 refine regTake (i := 5) (v := ?_) rfl qab qab qab (fun _ _ _ h => h) qar ?_ qad ?_
 rotate_left
 ·intro w_ hSw
  (try dsimp only at hSw)
  go_simp
  (try with_reducible rfl)
 try simp only [aS]
 refine regCall (i := 4) qab rfl qar (fun K hK => ?_)
 go_simp
 (go_at_call 93; have TH4 : TbS w z2 (some ⟨bcy, offcy, none⟩) m c3 _ := TbS.of hHeld; refine (root_spec ⟨y0, y1, y2, y3⟩ hyy [.int .i64 y0, .int .i64 y1, .string y2, .slice Dy y3.length dy] _ B (Nat.le_trans hB0 hHeld.1.size) (ndV (Qy.out.below hHeld.1 hB0))).mono ?_; rintro e w4 ⟨vs, rfl, hvs, hvw, hb4⟩; have TX4 := TH4.call hb4)
 refine hK.out _ _ ?_ (fun hHeld => ?_)
 ·(try dsimp only)
  (first | exact TX0.drew.and (cell4 TX0.drew.1 hbl cy_0 cy_1 cy_2 cy_3) | exact TX6.and (cell4 TX6.1 hbl cy_0 cy_1 cy_2 cy_3) | exact TX5.and (cell4 TX5.1 hbl cy_0 cy_1 cy_2 cy_3) | exact TX4.and (cell4 TX4.1 hbl cy_0 cy_1 cy_2 cy_3))
 clear hK K
 try simp only [aS]
 refine regCall (i := 6) qab rfl qar (fun K hK => ?_)
 go_simp
 (go_at_call 92; refine (same_this _ hvw vs _ B (Nat.le_trans hB0 hHeld.1.size) hvs).mono ?_; rw [HSV.out]; rintro e w6 ⟨rfl, hb6⟩; have TX6 := TX4.call hb6)
 refine hK.out _ _ ?_ (fun hHeld => ?_)
 ·(try dsimp only)
  (first | exact TX0.drew.and (cell4 TX0.drew.1 hbl cy_0 cy_1 cy_2 cy_3) | exact TX6.and (cell4 TX6.1 hbl cy_0 cy_1 cy_2 cy_3) | exact TX5.and (cell4 TX5.1 hbl cy_0 cy_1 cy_2 cy_3) | exact TX4.and (cell4 TX4.1 hbl cy_0 cy_1 cy_2 cy_3))
 clear hK K
 try simp only [aS]
 refine regTake (i := 7) (v := ?_) rfl qab qab qab (fun _ _ _ h => h) qar ?_ qad ?_
 rotate_left
 ·intro w_ hSw
  (try dsimp only at hSw)
  go_simp
  (try with_reducible rfl)
 try simp only [aS]
 refine wpAnyH_done qab ?_ _
 go_wp2_with fail
 go_ret
 exact ⟨ret_bool qal, TX6.1⟩) : P := h
theorem zz2 {P : Prop} (h : P := by
 intro us w B hB0 hr
 obtain ⟨A3, c3, rfl, r3⟩ := hr.node
 rw [FNode.wt_eq] at hw
 have hz : z2.size ≤ 9223372036854775807 := qaa
 have hz9 : z2.size ≤ 9000000000 := qaa
 simp only [FNode.kd, FNode.nu, FNode.tx]
 rw [EN.out, ET.out]
 have HB := Hf w (.slice A3 z3.length c3)
 clear hr r3 hw EN ET
 go_enter Tryz.func53, Tryz.ntmps53
 go_wp2_with (first | (go_at_call 85; refine (GoS _ _ hz rfl _).mono ?_; rintro e w3 ⟨rfl, hb3⟩))
 all_goals (go_ret2; exact ⟨ret_two qap qaj, HB.out.trans (hb3.mono HB.out.size)⟩)) : P := h
theorem zz3 {P : Prop} (h : P := by
 go_wp2_with (first | (go_at_call 53; refine FDC.out.mono ?_; rintro e w3 ⟨rfl, hb3⟩; have HB3 := hid (HB.out.trans (hb3.mono HB.out.size)); have ⟨bx_w3_0, bx_w3_1, bx_w3_2, bx_w3_3⟩ := box4 hb3; have sz_w3 := szA hb3) | (go_at_call 89; refine (HA.out _ _ w.heap.size HB3.out.size ((HR.out.up hB0).below HB3.out nr)).mono ?_; rintro e w4 ⟨rfl, hbe⟩; have HB4 := hid (HB3.out.trans (hbe.mono HB3.out.size))))
 all_goals (first | (go_ret; exact ⟨ret_bool qai, Hid.out qad⟩))) : P := h
theorem zz4 {P : Prop} (h : P := by
 rw [← LB.out, hR] at LI
 have HRr := hid hR
 clear hR
 by_cases h0 : R.1 = 0
 ·go_upto_region 23 with (go_at_call 37; refine LI.out.mono ?_; rintro e w5 ⟨va, vb, A1, n1, c1, A2, n2, c2, rfl, hb, hr⟩; obtain ⟨rfl, rfl, RF, RM, FM⟩ := hr h0; rw [h0]; have HB5 := hid hb; replace bY := bY.below hb nr; have bY0 := bY.cell 0; have bYl := bY.lt; have RFh := hid RF; have RMh := hid RM; have FMh := hid FM; clear hr hb RF RM FM)
  have bZ := Blk.new w5 56 #[.string (FClass.nm R.2), .string R.2.pa, .slice A1 n1 c1, .slice A2 n2 c2]
  have HB6 := hid ((HB5.out.alloc HB5.out.size (.cells #[.string (FClass.nm R.2), .string R.2.pa, .slice A1 n1 c1, .slice A2 n2 c2] 56)).alloc qbf (.cells #[.string (FClass.nm R.2), .string R.2.pa, .slice A1 n1 c1, .slice A2 n2 c2] 56))
  have OW := hid (own_below (own_below TW.out.a.row HB5.out nr) (((Below.refl w5.heap.size w5).alloc nr (.cells #[.string (FClass.nm R.2), .string R.2.pa, .slice A1 n1 c1, .slice A2 n2 c2] 56)).alloc qag (.cells #[.string (FClass.nm R.2), .string R.2.pa, .slice A1 n1 c1, .slice A2 n2 c2] 56)) nr)
  have RFz := hid (own_below RFh.out (((Below.refl w5.heap.size w5).alloc nr (.cells #[.string (FClass.nm R.2), .string R.2.pa, .slice A1 n1 c1, .slice A2 n2 c2] 56)).alloc qag (.cells #[.string (FClass.nm R.2), .string R.2.pa, .slice A1 n1 c1, .slice A2 n2 c2] 56)) nr)
  have RMz := hid (own_below RMh.out (((Below.refl w5.heap.size w5).alloc nr (.cells #[.string (FClass.nm R.2), .string R.2.pa, .slice A1 n1 c1, .slice A2 n2 c2] 56)).alloc qag (.cells #[.string (FClass.nm R.2), .string R.2.pa, .slice A1 n1 c1, .slice A2 n2 c2] 56)) nr)
  have ON := hid (show ∀ u ∈ ([.string (FClass.nm R.2), .string R.2.pa, .slice A1 n1 c1, .slice A2 n2 c2] : List Value), u.oneCell' = true from by intro u hu; simp only [List.mem_cons, List.not_mem_nil, or_false] at hu; rcases hu with rfl | rfl | rfl | rfl <;> rfl)
  have s6 : w5.heap.size ≤ (w5.alloc (.cells #[.string (FClass.nm R.2), .string R.2.pa, .slice A1 n1 c1, .slice A2 n2 c2] 56)).heap.size := by simp
  generalize w5.alloc (.cells #[.string (FClass.nm R.2), .string R.2.pa, .slice A1 n1 c1, .slice A2 n2 c2] 56) = W6 at *
  have RN := hid (rd_new W6 56 4 [.string (FClass.nm R.2), .string R.2.pa, .slice A1 n1 c1, .slice A2 n2 c2] rfl)
  have hw6 : w.heap.size ≤ (W6.alloc (.cells #[.string (FClass.nm R.2), .string R.2.pa, .slice A1 n1 c1, .slice A2 n2 c2] 56)).heap.size := Nat.le_trans BW.out.size (Nat.le_trans HB5.out.size (Nat.le_trans s6 qag))
  have bZ0 := bZ.cell 0; have bZ1 := bZ.cell 1; have bZ2 := bZ.cell 2; have bZ3 := bZ.cell 3; have bZl := bZ.lt; have bZf := fun i => bZ.frozen i
  go_wp2_with (at_builtin; go_must (refine wpList_append_rd _ rfl (.tmp 119) (.tmp 121) _ rfl w.heap.size _ _ _ 80 Tryz.underlying24 infoClassL rfl qaa (.slice AK K.length cK) K.length _ rfl OW.out (W6.heap.size + 1) _ 1 1 [.string (FClass.nm R.2), .string R.2.pa, .slice A1 n1 c1, .slice A2 n2 c2] rfl RN.out ON.out qao qaa hw6 ?_); intro v7 w7 own7 hg7 hat7; have hS := hid (LcT.cls TW.out G1h.out E1h.out BW.out rfl HRr.out h0 HB6.out RFz.out RMz.out FMh.out own7 hg7 hat7 ⟨AJ, cJ, rfl⟩); clear own7 hg7 hat7)
  go_roundw
  case rel => exact ⟨m + 1, by omega, by go_num, hS.out⟩
  case measure => simp [intOf]; omega
 ·have EB := hid (show linkL l = (R.1, []) from by rw [E1h.out, addK_bad (.inl rfl) qbp, HRr.out])
  have n1_ : (R.1 == 0) = false := by rw [beq_eq_false_iff_ne]; exact h0
  have n2_ : (R.1 != 0) = true := by rw [bne_iff_ne]; exact h0
  go_wp2_with (go_at_call 37; refine LI.out.mono ?_; rintro e w5 ⟨va, vb, A1, n1, c1, A2, n2, c2, rfl, hb, hr⟩; have HB5 := hid (BW.out.trans (hb.mono BW.out.size)); clear hr hb)
  refine bodyPost_ret (v := .tuple #[.slice (some ⟨w5.heap.size + 1, 0, none⟩) 0 0, .int .i64 R.1]) qan rfl ⟨_, 0, 0, by rw [EB.out], by rw [EB.out]; first | exact owni_emp0 HB5.out | exact owni_emp1 HB5.out, by first | exact below_emp0 HB5.out | exact below_emp1 HB5.out⟩) : P := h
theorem zz5 {P : Prop} (h : P := by
 rw [← LB.out, hR] at LI
 have HRr := hid hR
 clear hR
 by_cases h0 : R.1 = 0
 ·go_upto_region 24 with (go_at_call 37; refine LI.out.mono ?_; rintro e w5 ⟨va, vb, A1, n1, c1, A2, n2, c2, rfl, hb, hr⟩; obtain ⟨rfl, rfl, RF, RM, FM⟩ := hr h0; rw [h0]; have HB5 := hid hb; replace bY := bY.below hb nr; have bY0 := bY.cell 0; have bYl := bY.lt; have RFh := hid RF; have RMh := hid RM; have FMh := hid FM; clear hr hb RF RM FM)
  have bZ := Blk.new w5 56 #[.string (FClass.nm R.2), .string R.2.pa, .slice A1 n1 c1, .slice A2 n2 c2]
  have HB6 := hid ((HB5.out.alloc HB5.out.size (.cells #[.string (FClass.nm R.2), .string R.2.pa, .slice A1 n1 c1, .slice A2 n2 c2] 56)).alloc qbf (.cells #[.string (FClass.nm R.2), .string R.2.pa, .slice A1 n1 c1, .slice A2 n2 c2] 56))
  have OW := hid (own_below (own_below TW.out.b.row HB5.out nr) (((Below.refl w5.heap.size w5).alloc nr (.cells #[.string (FClass.nm R.2), .string R.2.pa, .slice A1 n1 c1, .slice A2 n2 c2] 56)).alloc qag (.cells #[.string (FClass.nm R.2), .string R.2.pa, .slice A1 n1 c1, .slice A2 n2 c2] 56)) nr)
  have RFz := hid (own_below RFh.out (((Below.refl w5.heap.size w5).alloc nr (.cells #[.string (FClass.nm R.2), .string R.2.pa, .slice A1 n1 c1, .slice A2 n2 c2] 56)).alloc qag (.cells #[.string (FClass.nm R.2), .string R.2.pa, .slice A1 n1 c1, .slice A2 n2 c2] 56)) nr)
  have RMz := hid (own_below RMh.out (((Below.refl w5.heap.size w5).alloc nr (.cells #[.string (FClass.nm R.2), .string R.2.pa, .slice A1 n1 c1, .slice A2 n2 c2] 56)).alloc qag (.cells #[.string (FClass.nm R.2), .string R.2.pa, .slice A1 n1 c1, .slice A2 n2 c2] 56)) nr)
  have ON := hid (show ∀ u ∈ ([.string (FClass.nm R.2), .string R.2.pa, .slice A1 n1 c1, .slice A2 n2 c2] : List Value), u.oneCell' = true from by intro u hu; simp only [List.mem_cons, List.not_mem_nil, or_false] at hu; rcases hu with rfl | rfl | rfl | rfl <;> rfl)
  have s6 : w5.heap.size ≤ (w5.alloc (.cells #[.string (FClass.nm R.2), .string R.2.pa, .slice A1 n1 c1, .slice A2 n2 c2] 56)).heap.size := by simp
  generalize w5.alloc (.cells #[.string (FClass.nm R.2), .string R.2.pa, .slice A1 n1 c1, .slice A2 n2 c2] 56) = W6 at *
  have RN := hid (rd_new W6 56 4 [.string (FClass.nm R.2), .string R.2.pa, .slice A1 n1 c1, .slice A2 n2 c2] rfl)
  have hw6 : w.heap.size ≤ (W6.alloc (.cells #[.string (FClass.nm R.2), .string R.2.pa, .slice A1 n1 c1, .slice A2 n2 c2] 56)).heap.size := Nat.le_trans BW.out.size (Nat.le_trans HB5.out.size (Nat.le_trans s6 qag))
  have bZ0 := bZ.cell 0; have bZ1 := bZ.cell 1; have bZ2 := bZ.cell 2; have bZ3 := bZ.cell 3; have bZl := bZ.lt; have bZf := fun i => bZ.frozen i
  go_wp2_with (at_builtin; go_must (refine wpList_append_rd _ rfl (.tmp 123) (.tmp 125) _ rfl w.heap.size _ _ _ 80 Tryz.underlying24 infoClassL rfl qaa (.slice AJ J.length cJ) J.length _ rfl OW.out (W6.heap.size + 1) _ 1 1 [.string (FClass.nm R.2), .string R.2.pa, .slice A1 n1 c1, .slice A2 n2 c2] rfl RN.out ON.out qao qaa hw6 ?_); intro v7 w7 own7 hg7 hat7; have hS := hid (LcT.trt TW.out G1h.out E1h.out BW.out rfl HRr.out h0 HB6.out RFz.out RMz.out FMh.out own7 hg7 hat7 ⟨AK, cK, rfl⟩); clear own7 hg7 hat7)
  go_roundw
  case rel => exact ⟨m + 1, by omega, by go_num, hS.out⟩
  case measure => simp [intOf]; omega
 ·have EB := hid (show linkL l = (R.1, []) from by rw [E1h.out, addK_bad (.inr rfl) qbp, HRr.out])
  have n1_ : (R.1 == 0) = false := by rw [beq_eq_false_iff_ne]; exact h0
  have n2_ : (R.1 != 0) = true := by rw [bne_iff_ne]; exact h0
  go_wp2_with (go_at_call 37; refine LI.out.mono ?_; rintro e w5 ⟨va, vb, A1, n1, c1, A2, n2, c2, rfl, hb, hr⟩; have HB5 := hid (BW.out.trans (hb.mono BW.out.size)); clear hr hb)
  refine bodyPost_ret (v := .tuple #[.slice (some ⟨w5.heap.size + 1, 0, none⟩) 0 0, .int .i64 R.1]) qan rfl ⟨_, 0, 0, by rw [EB.out], by rw [EB.out]; first | exact owni_emp0 HB5.out | exact owni_emp1 HB5.out, by first | exact below_emp0 HB5.out | exact below_emp1 HB5.out⟩) : P := h
theorem zz6 {P : Prop} (h : P := by
 cases hbi : b 5 with
 | true =>
  rw [hbi] at x_g5
  go_wp2_with ((go_at_call 71; refine zkp (isFn_impl _ _) ?_))
  all_goals (go_meet; refine ⟨?_, ?_, CkS.ext (X0.put hg 5 qae true) ?_⟩; (first | rfl | (simp_all [lpN]; done)); (first | rfl | (simp_all [inN]; done)); intro r hr; match r, hr with | 0, _ => simp [upb, swB, bdI, isFn] | 1, _ => simp [upb, swB, bdI, isFn] | 2, _ => simp [upb, swB, bdI, isFn] | 3, _ => simp [upb, swB, bdI, isFn] | 4, _ => simp_all [upb, swB, bdI, isFn] | 5, _ => simp_all [upb, swB, bdI, isFn])
 | false =>
  rw [hbi] at x_g5
  cases htv : twF 54 54 z3 with
  | true =>
   have HTV := hid htv
   have tok1 : True := trivial
   go_wp2_with (first | (go_at_call 71; refine zkp (isFn_impl _ _) ?_) | (go_at_call 72; clear tok1; refine (twice_impl 54 54 z3 hl9 HTX.out (.slice A3 z3.length c3) _ B (Nat.le_trans hB0 X0.1.size) (HR.out.below (X0.1.below hBg hB0) nr)).mono ?_; rw [HTV.out]; rintro e w5 ⟨rfl, hbw5⟩; have Xw5 := X0.call hbw5; have w5_0 := Xw5.2.2.1; have w5_1 := Xw5.2.2.2.1; have w5_2 := Xw5.2.2.2.2.1; have w5_3 := Xw5.2.2.2.2.2.1; have w5_g1 := Xw5.gc 1 qae; have w5_f1 := Xw5.2.1.frozen 1; have w5_g2 := Xw5.gc 2 qae; have w5_f2 := Xw5.2.1.frozen 2; have w5_g3 := Xw5.gc 3 qae; have w5_f3 := Xw5.2.1.frozen 3; have w5_g4 := Xw5.gc 4 qae; have w5_f4 := Xw5.2.1.frozen 4; have w5_g5 := Xw5.gc 5 qae; have w5_f5 := Xw5.2.1.frozen 5))
   all_goals (go_meet; refine ⟨?_, ?_, CkS.ext (Xw5.put hg 5 qae true) ?_⟩; (first | rfl | (simp_all [lpN]; done)); (first | rfl | (simp_all [inN]; done)); intro r hr; match r, hr with | 0, _ => simp [upb, swB, bdI, isFn] | 1, _ => simp [upb, swB, bdI, isFn] | 2, _ => simp [upb, swB, bdI, isFn] | 3, _ => simp [upb, swB, bdI, isFn] | 4, _ => simp_all [upb, swB, bdI, isFn] | 5, _ => simp_all [upb, swB, bdI, isFn])
  | false =>
   have HTV := hid htv
   have tok1 : True := trivial
   obtain ⟨tu, htu⟩ : ∃ tu, twF 55 55 z3 = tu := ⟨_, rfl⟩
   have HTU := hid htu
   go_wp2_with (first | (go_at_call 71; refine zkp (isFn_impl _ _) ?_) | (go_at_call 72; clear tok1; refine (twice_impl 54 54 z3 hl9 HTX.out (.slice A3 z3.length c3) _ B (Nat.le_trans hB0 X0.1.size) (HR.out.below (X0.1.below hBg hB0) nr)).mono ?_; rw [HTV.out]; rintro e w5 ⟨rfl, hbw5⟩; have Xw5 := X0.call hbw5; have w5_0 := Xw5.2.2.1; have w5_1 := Xw5.2.2.2.1; have w5_2 := Xw5.2.2.2.2.1; have w5_3 := Xw5.2.2.2.2.2.1; have w5_g1 := Xw5.gc 1 qae; have w5_f1 := Xw5.2.1.frozen 1; have w5_g2 := Xw5.gc 2 qae; have w5_f2 := Xw5.2.1.frozen 2; have w5_g3 := Xw5.gc 3 qae; have w5_f3 := Xw5.2.1.frozen 3; have w5_g4 := Xw5.gc 4 qae; have w5_f4 := Xw5.2.1.frozen 4; have w5_g5 := Xw5.gc 5 qae; have w5_f5 := Xw5.2.1.frozen 5) | (go_at_call 72; refine (twice_impl 55 55 z3 hl9 HTX.out (.slice A3 z3.length c3) _ B (Nat.le_trans hB0 Xw5.1.size) (HR.out.below (Xw5.1.below hBg hB0) nr)).mono ?_; rw [HTU.out]; rintro e w6 ⟨rfl, hbw6⟩; have Xw6 := Xw5.call hbw6; have w6_0 := Xw6.2.2.1; have w6_1 := Xw6.2.2.2.1; have w6_2 := Xw6.2.2.2.2.1; have w6_3 := Xw6.2.2.2.2.2.1; have w6_g1 := Xw6.gc 1 qae; have w6_f1 := Xw6.2.1.frozen 1; have w6_g2 := Xw6.gc 2 qae; have w6_f2 := Xw6.2.1.frozen 2; have w6_g3 := Xw6.gc 3 qae; have w6_f3 := Xw6.2.1.frozen 3; have w6_g4 := Xw6.gc 4 qae; have w6_f4 := Xw6.2.1.frozen 4; have w6_g5 := Xw6.gc 5 qae; have w6_f5 := Xw6.2.1.frozen 5))
   all_goals (go_meet; refine ⟨?_, ?_, CkS.ext (Xw6.put hg 5 qae tu) ?_⟩; (first | rfl | (simp_all [lpN]; done)); (first | rfl | (simp_all [inN]; done)); intro r hr; match r, hr with | 0, _ => simp [upb, swB, bdI, isFn] | 1, _ => simp [upb, swB, bdI, isFn] | 2, _ => simp [upb, swB, bdI, isFn] | 3, _ => simp [upb, swB, bdI, isFn] | 4, _ => simp_all [upb, swB, bdI, isFn] | 5, _ => simp_all [upb, swB, bdI, isFn])) : P := h
theorem zz7 {P : Prop} (h : P := by
 have bx3 := X3.out.2.2.2.2.2.1
 go_wp2_with fail
 go_loopw [112] (fun i wr => ∃ k : Nat, k ≤ z3.length ∧ i = .int .i64 k ∧ Only g (g + 1) w.heap.size w wr ∧ Blk wr g 4 (cb (fun r => (b r || bdI r lp ins z0 z2 z3) || brIL r (lpN z0 lp) (inN z0 ins) (z3.take k)))) (fun i _ => z3.length - (intOf i).toNat)
 case atStart => exact ⟨0, Nat.zero_le _, rfl, X3.out.1, by rw [cb_ext (g := fun r => b r || bdI r lp ins z0 z2 z3) (fun r hr => by simp [brIL])]; exact X3.out.2.1⟩
 case round =>
  obtain ⟨k, hk, rfl, ho, hbk⟩ := hrel
  have hbs := ho.size
  have hb := ho.below hBg hB0
  by_cases hlt : k < z3.length
  ·skip
   obtain ⟨x, hx⟩ : ∃ x, z3[k]? = some x := ⟨_, List.getElem?_eq_getElem hlt⟩
   obtain ⟨bc, offc, rfl, hblc, hcc⟩ := RdC.at_ FNode.len HR.out hx
   have HX := hid hx
   have HM := hid (List.mem_of_getElem? hx)
   clear hx
   obtain ⟨y0, y1, y2, y3⟩ := x
   rw [FNode.c_eq] at hcc
   obtain ⟨u0, e0, q0⟩ := hcc 0 _ rfl
   obtain rfl := q0.val
   have c_0 : wr.cell? ⟨bc, offc + k * 4, none⟩ = some (.int .i64 y0) := (hb.cell (p := ⟨bc, _, none⟩) hblc).trans qa3
   obtain ⟨u1, e1, q1⟩ := hcc 1 _ rfl
   obtain rfl := q1.val
   have c_1 : wr.cell? ⟨bc, offc + k * 4 + 1, none⟩ = some (.int .i64 y1) := (hb.cell (p := ⟨bc, _, none⟩) hblc).trans qa4
   obtain ⟨u2, e2, q2⟩ := hcc 2 _ rfl
   obtain rfl := q2.val
   have c_2 : wr.cell? ⟨bc, offc + k * 4 + 2, none⟩ = some (.string y2) := (hb.cell (p := ⟨bc, _, none⟩) hblc).trans qa5
   obtain ⟨u3, e3, q3⟩ := hcc 3 _ rfl
   obtain ⟨D, d, rfl⟩ := q3.form
   have c_3 : wr.cell? ⟨bc, offc + k * 4 + 3, none⟩ = some (.slice D y3.length d) := (hb.cell (p := ⟨bc, _, none⟩) hblc).trans qa6
   have Q3 := hid q3
   clear hcc e0 e1 e2 e3 q0 q1 q2 q3
   have HV := hid (HE.out _ HM.out)
   have hal := (Below.refl wr.heap.size wr).alloc nr (.cells #[.int .i64 y0, .int .i64 y1, .string y2, .slice D y3.length d] 44)
   have ho2 := hid (ho.trans (only_of_below (hal.mono hbs)))
   have hb2 := hid (ho2.out.below hBg hB0)
   have CALL := hid (HV.out [.int .i64 y0, .int .i64 y1, .string y2, .slice D y3.length d] (wr.alloc (.cells #[.int .i64 y0, .int .i64 y1, .string y2, .slice D y3.length d] 44)) B g _ (lpN z0 lp) (inN z0 ins) hBg (by have := hal.size; omega) (ndV (Q3.out.below hb2.out nr)) (hbk.alloc _))
   have HBK := hid (brIL_take · (lpN z0 lp) (inN z0 ins) z3 k _ HX.out)
   clear hbk
   go_wp2_with (go_at_call 42; refine CALL.out.mono ?_; rintro e w2 ⟨rfl, ho3, hbk3⟩)
   go_roundw
   case rel =>
    refine ⟨k + 1, by omega, by go_num, ho2.out.trans (ho3.less (by have := hal.size; omega)), ?_⟩
    rw [cb_ext (g := fun r => ((b r || bdI r lp ins z0 z2 z3) || brIL r (lpN z0 lp) (inN z0 ins) (z3.take k)) || brI r (lpN z0 lp) (inN z0 ins) ⟨y0, y1, y2, y3⟩) (fun r hr => by rw [HBK.out r, Bool.or_assoc, Bool.or_assoc, Bool.or_assoc])]
    exact hbk3
   case measure => simp [intOf]; omega
  ·obtain rfl : k = z3.length := qaa
   clear hlt
   go_wp2_with fail
   go_end0
   refine ⟨by first | rfl | trivial, ho, ?_⟩
   rw [List.take_length] at hbk
   rw [cb_ext (g := fun r => (b r || bdI r lp ins z0 z2 z3) || brIL r (lpN z0 lp) (inN z0 ins) z3) (fun r hr => by rw [brI, Bool.or_assoc])]
   exact hbk) : P := h
theorem zz8 {P : Prop} (h : P := by
 cases hbi : b 4 with
 | true =>
  rw [hbi] at x_g4
  go_wp2_with ((go_at_call 71; refine zkp (isFn_impl _ _) ?_))
  all_goals (go_meet; refine ⟨?_, ?_, CkS.ext (X0.put hg 4 qae true) ?_⟩; (first | rfl | (simp_all [lpN]; done)); (first | rfl | (simp_all [inN]; done)); intro r hr; match r, hr with | 0, _ => simp [upb, swB, bdI, isFn] | 1, _ => simp [upb, swB, bdI, isFn] | 2, _ => simp [upb, swB, bdI, isFn] | 3, _ => simp [upb, swB, bdI, isFn] | 4, _ => simp_all [upb, swB, bdI, isFn] | 5, _ => simp_all [upb, swB, bdI, isFn])
 | false =>
  rw [hbi] at x_g4
  obtain ⟨tv, htv⟩ : ∃ tv, twF 24 25 z3 = tv := ⟨_, rfl⟩
  have HTV := hid htv
  go_wp2_with (first | (go_at_call 71; refine zkp (isFn_impl _ _) ?_) | (go_at_call 72; refine (twice_impl 24 25 z3 hl9 HTX.out (.slice A3 z3.length c3) _ B (Nat.le_trans hB0 X0.1.size) (HR.out.below (X0.1.below hBg hB0) nr)).mono ?_; rw [HTV.out]; rintro e w5 ⟨rfl, hbw5⟩; have Xw5 := X0.call hbw5; have w5_0 := Xw5.2.2.1; have w5_1 := Xw5.2.2.2.1; have w5_2 := Xw5.2.2.2.2.1; have w5_3 := Xw5.2.2.2.2.2.1; have w5_g1 := Xw5.gc 1 qae; have w5_f1 := Xw5.2.1.frozen 1; have w5_g2 := Xw5.gc 2 qae; have w5_f2 := Xw5.2.1.frozen 2; have w5_g3 := Xw5.gc 3 qae; have w5_f3 := Xw5.2.1.frozen 3; have w5_g4 := Xw5.gc 4 qae; have w5_f4 := Xw5.2.1.frozen 4; have w5_g5 := Xw5.gc 5 qae; have w5_f5 := Xw5.2.1.frozen 5))
  all_goals (go_meet; refine ⟨?_, ?_, CkS.ext (Xw5.put hg 4 qae tv) ?_⟩; (first | rfl | (simp_all [lpN]; done)); (first | rfl | (simp_all [inN]; done)); intro r hr; match r, hr with | 0, _ => simp [upb, swB, bdI, isFn] | 1, _ => simp [upb, swB, bdI, isFn] | 2, _ => simp [upb, swB, bdI, isFn] | 3, _ => simp [upb, swB, bdI, isFn] | 4, _ => simp_all [upb, swB, bdI, isFn] | 5, _ => simp_all [upb, swB, bdI, isFn])) : P := h
theorem zz9 {P : Prop} (h : P := by
 (try dsimp only)
 (first | exact TX0.drew.and (cell4 TX0.drew.1 hbl cy_0 cy_1 cy_2 cy_3) | exact TX6.and (cell4 TX6.1 hbl cy_0 cy_1 cy_2 cy_3) | exact TX5.and (cell4 TX5.1 hbl cy_0 cy_1 cy_2 cy_3) | exact TX4.and (cell4 TX4.1 hbl cy_0 cy_1 cy_2 cy_3))) : P := h
theorem zz10 {P : Prop} (h : P := by
 go_wp2_with (first | (go_at_call 110; refine CALL.out.mono ?_; rintro e w' ⟨rfl, hb3⟩))
 all_goals (go_ret; exact ⟨ret_bool qac, bT HB⟩)) : P := h
theorem zz11 {P : Prop} (h : P := by
 have hq : (y2.toList == [115, 101, 108, 102] || (y2.toList == [112, 97, 114, 101, 110, 116] || (decide (0 ≤ fidx FClass.nm (K.map Prod.fst) y2) || decide (0 ≤ fidx FClass.nm (J.map Prod.fst) y2)))) = true := hbad
 have F1 := hid (FI.out y2)
 have F2 := hid (FJ.out y2)
 clear FI FJ hbad
 generalize fidx FClass.nm (K.map Prod.fst) y2 = fi at *
 generalize fidx FClass.nm (J.map Prod.fst) y2 = fj at *
 cases h1 : (y2.toList == [115, 101, 108, 102]) <;> rw [h1] at hq
 ·cases h2 : (y2.toList == [112, 97, 114, 101, 110, 116]) <;> rw [h2] at hq
  ·cases h3 : decide (0 ≤ fi) <;> rw [h3] at hq
   ·cases h4 : decide (0 ≤ fj) <;> rw [h4] at hq
    ·simp at hq
    ·clear hq
     have tok1 : True := trivial
     go_wp2_with (first | (have _q := tok2; go_at_call 36; refine (F2.out _ HB1.out).mono ?_; rintro e w2 ⟨rfl, hb, hb2⟩; have HB2 := hid hb2; replace bY := bY.below hb nr; have bY2 := bY.cell 2; clear hb hb2) | (go_at_call 36; refine (F1.out _ B5.out).mono ?_; rintro e w1 ⟨rfl, hb, hb2⟩; have HB1 := hid hb2; replace bY := bY.below hb nr; have bY2 := bY.cell 2; have tok2 : True := trivial; clear hb hb2))
     refine bodyPost_ret (v := .tuple #[.slice (some ⟨w2.heap.size, 0, none⟩) 0 0, .int .i64 1]) qan rfl ⟨_, 0, 0, by rw [EB.out], by rw [EB.out]; first | exact owni_emp0 (B1h.out.trans (HB2.out.mono B1h.out.size)) | exact owni_emp1 (B1h.out.trans (HB2.out.mono B1h.out.size)), by first | exact below_emp0 (B1h.out.trans (HB2.out.mono B1h.out.size)) | exact below_emp1 (B1h.out.trans (HB2.out.mono B1h.out.size))⟩
   ·clear hq
    go_wp2_with (go_at_call 36; refine (F1.out _ B5.out).mono ?_; rintro e w1 ⟨rfl, hb, hb2⟩; have HB1 := hid hb2; replace bY := bY.below hb nr; have bY2 := bY.cell 2; clear hb hb2)
    refine bodyPost_ret (v := .tuple #[.slice (some ⟨w1.heap.size, 0, none⟩) 0 0, .int .i64 1]) qan rfl ⟨_, 0, 0, by rw [EB.out], by rw [EB.out]; first | exact owni_emp0 (B1h.out.trans (HB1.out.mono B1h.out.size)) | exact owni_emp1 (B1h.out.trans (HB1.out.mono B1h.out.size)), by first | exact below_emp0 (B1h.out.trans (HB1.out.mono B1h.out.size)) | exact below_emp1 (B1h.out.trans (HB1.out.mono B1h.out.size))⟩
  ·clear hq
   go_wp2_with fail
   refine bodyPost_ret (v := .tuple #[.slice (some ⟨X5.heap.size, 0, none⟩) 0 0, .int .i64 1]) qan rfl ⟨_, 0, 0, by rw [EB.out], by rw [EB.out]; first | exact owni_emp0 B1h.out | exact owni_emp1 B1h.out, by first | exact below_emp0 B1h.out | exact below_emp1 B1h.out⟩
 ·clear hq
  go_wp2_with fail
  refine bodyPost_ret (v := .tuple #[.slice (some ⟨X5.heap.size, 0, none⟩) 0 0, .int .i64 1]) qan rfl ⟨_, 0, 0, by rw [EB.out], by rw [EB.out]; first | exact owni_emp0 B1h.out | exact owni_emp1 B1h.out, by first | exact below_emp0 B1h.out | exact below_emp1 B1h.out⟩) : P := h
theorem zz12 {P : Prop} (h : P := by
 (first | (go_ret; exact ⟨ret_bool qai, Hid.out qad⟩))) : P := h
theorem zz13 {P : Prop} (h : P := by
 intro us w B hB0 hr
 obtain ⟨A3, c3, rfl, r3⟩ := hr.node
 have hww := hw
 rw [FNode.wt_eq] at hw
 have hz : z2.size ≤ 9223372036854775807 := qaa
 have hl : z3.length ≤ 9000000000 := qaa
 have HR0 := hid r3
 obtain ⟨m, hm⟩ : ∃ m, z3.length = m := ⟨_, rfl⟩
 try rw [hm] at hl r3 ⊢
 have HR := hid r3
 have HB := Hf w (.slice A3 m c3)
 clear hr r3
 obtain ⟨⟨y0, y1, y2, y3⟩, r, rfl⟩ : ∃ a r, z3 = a :: r := by
  cases z3 with
  | nil => simp at hk1
  | cons a r => exact ⟨a, r, rfl⟩
 have hpos : 0 < m := by rw [← hm]; simp
 obtain ⟨bcy, offcy, Ey, hblcy, hcc⟩ := nd_at hm.symm (l := (FNode.mk y0 y1 y2 y3 :: r)) HR.out (i := 0) (x := FNode.mk y0 y1 y2 y3) rfl
 obtain ⟨Dy, dy, cy_0, cy_1, cy_2, cy_3, q3⟩ := opN (Below.refl w.heap.size w) qaa hcc (offcy) (offcy + 1) (offcy + 2) (offcy + 3) qaa
 have Qy := hid q3
 clear hcc q3
 have hbl : bcy < w.heap.size := Nat.lt_of_lt_of_le hblcy hB0
 subst Ey
 have ⟨_, _, _, _⟩ := cell4 HB.out hbl cy_0 cy_1 cy_2 cy_3
 have hrt := hr0 _ _ rfl
 have hyw : (FNode.mk y0 y1 y2 y3).wt ≤ 9000000000 := by have := FNode.wts_at (FNode.mk y0 y1 y2 y3 :: r) _ (List.mem_cons_self ..); omega
 clear hm hw hww hk1 hr0 HR0
 have HY := hid (show hdRn (FNode.mk y0 y1 y2 y3 :: r) = ((rnmF ⟨y0, y1, y2, y3⟩).toList == [116, 104, 105, 115]) from (rnm_th _).symm)
 rw [HY.out]
 go_enter Tryz.func73, Tryz.ntmps73
 go_wp2_with ((go_at_call 113; refine (rn_impl ⟨y0, y1, y2, y3⟩ hyw hrt [.int .i64 y0, .int .i64 y1, .string y2, .slice Dy y3.length dy] _ w.heap.size HB.out.size (ndV ((Qy.out.up hB0).below HB.out nr))).mono ?_; rintro e w4 ⟨rfl, hb4⟩))
 all_goals (go_ret; exact ⟨ret_bool qal, HB.out.trans (hb4.mono HB.out.size)⟩)) : P := h
theorem zz14 {P : Prop} (h : P := by
 intro us w B hmx hB0 hr
 obtain ⟨A3, c3, rfl, r3⟩ := hr.node
 rw [FNode.wt_eq] at hw
 have hz : z2.size ≤ 9223372036854775807 := qaa
 have hl : z3.length ≤ 9223372036854775807 := qaa
 obtain ⟨m, hm⟩ : ∃ m, z3.length = m := ⟨_, rfl⟩
 try rw [hm] at EX
 rw [hm] at hl r3  ⊢
 have HB := Hf w (.slice A3 m c3)
 clear hr
 have HR := hid r3
 clear r3
 by_cases e2 : z1 = 0
 ·subst e2
  by_cases e1 : m = 1
  ·subst e1
   obtain ⟨⟨y0, y1, y2, y3⟩, rfl⟩ := List.length_eq_one_iff.mp hm
   have HV := hid (hE ⟨y0, y1, y2, y3⟩ (List.mem_singleton.mpr rfl))
   obtain ⟨bcy, offcy, Ey, hblcy, hcc⟩ := RdC.at_ (l := [FNode.mk y0 y1 y2 y3]) FNode.len HR.out (i := 0) (x := FNode.mk y0 y1 y2 y3) rfl
   obtain ⟨Dy, dy, cy_0, cy_1, cy_2, cy_3, q3⟩ := opN HB.out qaa hcc (offcy) (offcy + 1) (offcy + 2) (offcy + 3) qaa
   have Qy := hid q3
   clear hcc q3
   subst Ey
   have CALL := hid (HV.out [.int .i64 y0, .int .i64 y1, .string y2, .slice Dy y3.length dy] _ w.heap.size (hmx.below HB.out) HB.out.size (ndV ((Qy.out.up hB0).below HB.out nr)))
   clear hm hw hE
   rw [show [FNode.mk y0 y1 y2 y3].all exF = exF ⟨y0, y1, y2, y3⟩ from by simp] at EX
   go_enter Tryz.func70, Tryz.ntmps70
   go_wp2_with (first | (go_at_call 106; refine CALL.out.mono ?_; rintro e w' ⟨rfl, hb3⟩))
   all_goals (go_ret; exact ⟨ret_bool qac, bT HB⟩)
  ·clear hm hw hE
   go_enter Tryz.func70, Tryz.ntmps70
   go_wp2_with (fail)
   all_goals (go_ret; exact ⟨ret_bool qac, bT HB⟩)
 ·clear hm hw hE
  go_enter Tryz.func70, Tryz.ntmps70
  go_wp2_with (fail)
  all_goals (go_ret; exact ⟨ret_bool qac, bT HB⟩)) : P := h
theorem zz15 {P : Prop} (h : P := by
 have n1_ : (R.1 == 0) = false := by rw [beq_eq_false_iff_ne]; exact h0
 have n2_ : (R.1 != 0) = true := by rw [bne_iff_ne]; exact h0
 go_wp2_with (go_at_call 37; refine LI.out.mono ?_; rintro e w5 ⟨va, vb, A1, n1, c1, A2, n2, c2, rfl, hb, hr⟩; have HB5 := hid (BW.out.trans (hb.mono BW.out.size)); clear hr hb)
 refine bodyPost_ret (v := .tuple #[.slice (some ⟨w5.heap.size + 1, 0, none⟩) 0 0, .int .i64 R.1]) qan rfl ⟨_, 0, 0, by rw [EB.out], by rw [EB.out]; first | exact owni_emp0 HB5.out | exact owni_emp1 HB5.out, by first | exact below_emp0 HB5.out | exact below_emp1 HB5.out⟩) : P := h
theorem zz16 {P : Prop} (h : P := by
 skip
 go_enter Tryz.func112, Tryz.ntmps112
 go_wp2_with (first | (go_at_call 108; clear tok1; refine CA.out.mono ?_; rintro e w3 ⟨rfl, hb3⟩; have HB3 := hid hb3; have ⟨k_b0, k_b1, k_b2, k_b3⟩ := cell4 HB3.out hbl cb_0 cb_1 cb_2 cb_3; have HBc := hid (HB3.out.alloc HB3.out.size (.cells #[.int .i64 44, .int .i64 0, .string b2, .slice (some ⟨bcp, offcp, none⟩) 2 db] 44)); have ⟨k_p0, k_p1, k_p2, k_p3⟩ := cell4 HBc.out hblp cp_0 cp_1 cp_2 cp_3) | (go_at_call 104; refine zkp (GoV _ _ hz hgo _) ?_) | (go_at_call 109; refine (CP.out [.int .i64 p0, .int .i64 p1, .string p2, .slice Dp p3.length dp] _ w.heap.size (ndV ((Qp.out.up hB0).below HBc.out nr))).mono ?_; rintro e w4 ⟨rfl, hb4⟩; have HB4 := hid (HBc.out.trans (hb4.mono HBc.out.size)); have bx4 : w4.cell? ⟨w3.heap.size, 3, none⟩ = some (.slice (some ⟨bcp, offcp, none⟩) 2 db) := (hb4.cell (p := ⟨w3.heap.size, 3, none⟩) qbm).trans (by rw [World.cell?_alloc_new]; rfl)) | (go_at_call 108; clear tok2; refine (CQ.out _ _ w.heap.size (hmx.below HB4.out) HB4.out.size ((RT2.out.up hB0).below HB4.out nr)).mono ?_; rintro e w5 ⟨rfl, hb5⟩; have HB5 := hid (HB4.out.trans (hb5.mono HB4.out.size)); have ⟨k_f0, k_f1, k_f2, k_f3⟩ := cell4 HB5.out hbl cf_0 cf_1 cf_2 cf_3))
 all_goals (first | (go_ret; exact ⟨ret_bool qai, HB5.out⟩) | (go_ret; exact ⟨ret_bool qai, HB5.out.alloc HB5.out.size _⟩) | (go_ret; exact ⟨ret_bool qai, HB5.out.trans (Below.mono qad HB5.out.size)⟩))) : P := h
theorem zz17 {P : Prop} (h : P := by
 (try dsimp only)
 (first | exact TX0.drew.and (c4a TX0.drew.1 hbl ct_0 ct_1 ct_2 ct_3 (cell4 TX0.drew.1 hbl cu_0 cu_1 cu_2 cu_3)) | exact TX6.and (c4a TX6.1 hbl ct_0 ct_1 ct_2 ct_3 (cell4 TX6.1 hbl cu_0 cu_1 cu_2 cu_3)) | exact TX5.and (c4a TX5.1 hbl ct_0 ct_1 ct_2 ct_3 (cell4 TX5.1 hbl cu_0 cu_1 cu_2 cu_3)) | exact TX4.and (c4a TX4.1 hbl ct_0 ct_1 ct_2 ct_3 (cell4 TX4.1 hbl cu_0 cu_1 cu_2 cu_3)))) : P := h
theorem zz18 {P : Prop} (h : P := by
 have CALL := hid (ex_impl _ hgw [.int .i64 g0, .int .i64 g1, .string g2, .slice Dg g3.length dg] _ w.heap.size (hmx.below hb2.out) hb2.out.size (ndV ((Qg.out.up hB0).below hb2.out nr)))
 clear Q3' HA hyw hgw
 cases hin : inB g0 1 3 with
 | false =>
  have HP := hid (show clsP false p (z3.drop k) = false from by rw [HA2.out, hin]; rfl)
  have HIN := hid hin
  go_wp2_with (first | (go_at_call 104; refine zkp (GoV _ _ hzy hgy _) ?_) | (go_at_call 67; refine (inRange_any _ _ _ _).mono ?_; rw [HIN.out]; rintro e w' ⟨rfl, rfl⟩))
  go_ret; exact ⟨ret_bool qah, hb2.out⟩
 | true =>
  have HIN := hid hin
  cases hv : exF ⟨g0, g1, g2, g3⟩ with
  | false =>
   have HP := hid (show clsP false p (z3.drop k) = false from by rw [HA2.out, hv, Bool.and_false]; rfl)
   rw [hv] at CALL
   go_wp2_with (first | (go_at_call 104; refine zkp (GoV _ _ hzy hgy _) ?_) | (go_at_call 67; refine (inRange_any _ _ _ _).mono ?_; rw [HIN.out]; rintro e w' ⟨rfl, rfl⟩) | (go_at_call 106; refine CALL.out.mono ?_; rintro e w2 ⟨rfl, hb3⟩))
   go_ret; exact ⟨ret_bool qah, (hb2.out.trans (hb3.mono hb2.out.size))⟩
  | true =>
   have HP := hid (show clsP false p (z3.drop k) = clsP false 2 (z3.drop (k + 1)) from by rw [HA2.out, hv, hin]; rfl)
   rw [hv] at CALL
   go_wp2_with (first | (go_at_call 104; refine zkp (GoV _ _ hzy hgy _) ?_) | (go_at_call 67; refine (inRange_any _ _ _ _).mono ?_; rw [HIN.out]; rintro e w' ⟨rfl, rfl⟩) | (go_at_call 106; refine CALL.out.mono ?_; rintro e w2 ⟨rfl, hb3⟩))
   go_roundw
   case rel => exact ⟨k + 1, 2, by omega, by go_num, rfl, by simp, hid qah, (hb2.out.trans (hb3.mono hb2.out.size)), box_keep (kb2.trans (hb3.mono kb2.size)) hlt0 hbox⟩
   case measure => simp [intOf]; omega) : P := h
theorem zz19 {P : Prop} (h : P := by
 have CALL := hid (ex_impl _ hgw [.int .i64 g0, .int .i64 g1, .string g2, .slice Dg g3.length dg] _ w.heap.size (hmx.below hb2.out) hb2.out.size (ndV ((Qg.out.up hB0).below hb2.out nr)))
 clear Q3' HA hyw hgw
 cases hin : inB g0 1 3 with
 | false =>
  have HP := hid (show clsP true p (z3.drop k) = false from by rw [HA2.out, hin]; rfl)
  have HIN := hid hin
  go_wp2_with (first | (go_at_call 104; refine zkp (GoV _ _ hzy hgy _) ?_) | (go_at_call 67; refine (inRange_any _ _ _ _).mono ?_; rw [HIN.out]; rintro e w' ⟨rfl, rfl⟩))
  go_ret; exact ⟨ret_bool qah, hb2.out⟩
 | true =>
  have HIN := hid hin
  cases hv : exF ⟨g0, g1, g2, g3⟩ with
  | false =>
   have HP := hid (show clsP true p (z3.drop k) = false from by rw [HA2.out, hv, Bool.and_false]; rfl)
   rw [hv] at CALL
   go_wp2_with (first | (go_at_call 104; refine zkp (GoV _ _ hzy hgy _) ?_) | (go_at_call 67; refine (inRange_any _ _ _ _).mono ?_; rw [HIN.out]; rintro e w' ⟨rfl, rfl⟩) | (go_at_call 106; refine CALL.out.mono ?_; rintro e w2 ⟨rfl, hb3⟩))
   go_ret; exact ⟨ret_bool qah, (hb2.out.trans (hb3.mono hb2.out.size))⟩
  | true =>
   have HP := hid (show clsP true p (z3.drop k) = clsP true 2 (z3.drop (k + 1)) from by rw [HA2.out, hv, hin]; rfl)
   rw [hv] at CALL
   go_wp2_with (first | (go_at_call 104; refine zkp (GoV _ _ hzy hgy _) ?_) | (go_at_call 67; refine (inRange_any _ _ _ _).mono ?_; rw [HIN.out]; rintro e w' ⟨rfl, rfl⟩) | (go_at_call 106; refine CALL.out.mono ?_; rintro e w2 ⟨rfl, hb3⟩))
   go_roundw
   case rel => exact ⟨k + 1, 2, by omega, by go_num, rfl, by simp, hid qah, (hb2.out.trans (hb3.mono hb2.out.size)), box_keep (kb2.trans (hb3.mono kb2.size)) hlt0 hbox⟩
   case measure => simp [intOf]; omega) : P := h
theorem zz20 {P : Prop} (h : P := by
 go_wp2_with ((go_at_call 104; refine zkp (GoV _ _ hzy hgy _) ?_))
 go_ret; exact ⟨ret_bool qah, hb2⟩) : P := h
theorem zz21 {P : Prop} (h : P := by
 go_wp2_with ((go_at_call 71; refine zkp (isFn_impl _ _) ?_))
 all_goals (go_meet; refine ⟨?_, ?_, CkS.ext (X0) ?_⟩; (first | rfl | (simp_all [lpN]; done)); (first | rfl | (simp_all [inN]; done)); intro r hr; match r, hr with | 0, _ => simp [upb, swB, bdI, isFn] | 1, _ => simp [upb, swB, bdI, isFn] | 2, _ => simp [upb, swB, bdI, isFn] | 3, _ => simp [upb, swB, bdI, isFn] | 4, _ => simp_all [upb, swB, bdI, isFn] | 5, _ => simp_all [upb, swB, bdI, isFn])) : P := h
theorem zz22 {P : Prop} (h : P := by
 (go_ret; exact ⟨ret_bool qac, bT HB⟩)) : P := h
theorem zz23 {P : Prop} (h : P := by
 unfold RdC at h
 obtain ⟨A', c', hA, k1, k2, _, _⟩ := h
 simp only [Value.slice.injEq, true_and] at hA
 omega) : P := h
theorem zz24 {P : Prop} (h : P := by
 go_simp
 (try with_reducible rfl)) : P := h
theorem zz25 {P : Prop} (h : P := by
 (try dsimp only)
 (first | exact TX0.drew.and (cell4 TX0.drew.1 hbl ct_0 ct_1 ct_2 ct_3) | exact TX6.and (cell4 TX6.1 hbl ct_0 ct_1 ct_2 ct_3) | exact TX5.and (cell4 TX5.1 hbl ct_0 ct_1 ct_2 ct_3) | exact TX4.and (cell4 TX4.1 hbl ct_0 ct_1 ct_2 ct_3))) : P := h
theorem zz26 {P : Prop} (h : P := by
 have hb2 := hb.alloc hbs (.cells #[.int .i64 53, .int .i64 0, .string y2, .slice D 0 d] 44)
 have kb2 := (Below.refl wr.heap.size wr).alloc nr (.cells #[.int .i64 53, .int .i64 0, .string y2, .slice D 0 d] 44)
 go_wp2_with ((go_at_call 104; refine zkp (GoV _ _ hzy hgy _) ?_))
 go_roundw
 case rel => exact ⟨k + 1, 1, by omega, by go_num, rfl, by simp, hid qah, hb2, box_keep kb2 hlt0 hbox⟩
 case measure => simp [intOf]; omega) : P := h
theorem zz27 {P : Prop} (h : P := by
 go_wp2_with fail
 go_loop [1, 5] (fun kv i => kv = .int .i64 k0 ∧ i = .int .i64 0) (fun _ i => 0)
 case atStart => exact ⟨rfl, rfl⟩
 case round =>
  obtain ⟨rfl, rfl⟩ := hrel
  go_wp2_with fail
  go_ret
  exact ⟨ret_int (by simp [cntL]), by simpa [mkL] using HO.out, OnlyF.refl _ _⟩) : P := h
theorem zz28 {P : Prop} (h : P := by
 have HMT := hid hmt
 rw [hmt, Bool.true_and, ← HN.out] at HD
 clear hmt
 cases hs : hasS S0 y2.toList with
 | true =>
  have HAS := hid hs
  rw [hs] at HD
  go_wp2_with ((at_lookup; refine wpList_look_seen _ rfl _ _ 51 rfl 9 4 Tryz.underlying9 Tryz.underlying4 zeroBB Tryz.underlying51 w.heap.size n0 S0 rfl (SE.out.alloc _) y2 hsm rfl ?_; rw [HAS.out]))
  go_ret
  exact ⟨ret_bool (tw_t HX.out HD.out).symm, hb2.out⟩
 | false =>
  have HAS := hid hs
  rw [hs] at HD
  go_wp2_with (first | (at_lookup; refine wpList_look_seen _ rfl _ _ 51 rfl 9 4 Tryz.underlying9 Tryz.underlying4 zeroBB Tryz.underlying51 w.heap.size n0 S0 rfl (SE.out.alloc _) y2 hsm rfl ?_; rw [HAS.out]) | (at_mapUpdate; refine wpList_put_seen _ rfl _ _ _ 51 rfl 9 4 Tryz.underlying9 Tryz.underlying4 Tryz.underlying51 w.heap.size n0 S0 rfl (SE.out.alloc _) hnm y2 hsm rfl rfl ?_; rintro w9 se9 hg9))
  go_roundw
  case rel => exact ⟨k + 1, n0 + 1, _, by omega, by omega, by go_num, hid (fun j hj => by rcases Nat.lt_succ_iff_lt_or_eq.mp hj with h | h; exact HA.out j h; rw [h]; exact HD.out), hid (HN.out.put HX.out HMT.out), hid se9, below_grown hb2.out hg9 nr hb2.out.size⟩
  case measure => simp [intOf]; omega) : P := h
theorem zz29 {P : Prop} (h : P := by
 intro us w B hB0 hr
 obtain ⟨A3, c3, rfl, r3⟩ := hr.node
 rw [FNode.wt_eq] at hw
 have hz : z2.size ≤ 9223372036854775807 := qaa
 have hz9 : z2.size ≤ 9000000000 := qaa
 simp only [FNode.kd, FNode.nu, FNode.tx]
 rw [EN.out, ET.out]
 have HB := Hf w (.slice A3 z3.length c3)
 clear hr r3 hw EN ET
 go_enter Tryz.func53, Tryz.ntmps53
 go_wp2_with (first | (go_at_call 51; refine zkp (l1In_any _ _ _ _) ?_))
 all_goals (go_ret2; exact ⟨ret_two qap qaj, HB.out⟩)) : P := h
theorem zz30 {P : Prop} (h : P := by
 have HIN := hid hin
 go_wp2_with (first | (go_at_call 104; refine zkp (GoV _ _ hzy hgy _) ?_) | (go_at_call 67; refine (inRange_any _ _ _ _).mono ?_; rw [HIN.out]; rintro e w' ⟨rfl, rfl⟩))
 go_ret; exact ⟨ret_bool qah, hb2.out⟩) : P := h
theorem zz31 {P : Prop} (h : P := by
 go_wp2_with (first | (go_at_call 121; refine zkp (l14Letter_any _ _ qaa qaa) ?_) | (go_at_call 122; refine zkp (l14Digit_any _ _ qaa qaa) ?_) | (go_at_call 51; refine zkp (l1In_any _ _ _ _) ?_))
 go_round
 case rel => exact ⟨k + 1, by omega, by go_num, GO.out HT.out⟩
 case measure => simp [intOf]; omega) : P := h
theorem zz32 {P : Prop} (h : P := by
 go_roundw
 case rel => exact ⟨k + 1, 2, by omega, by go_num, rfl, by simp, hid qah, (hb2.out.trans (hb3.mono hb2.out.size)), box_keep (kb2.trans (hb3.mono kb2.size)) hlt0 hbox⟩
 case measure => simp [intOf]; omega) : P := h
theorem zz33 {P : Prop} (h : P := by
 intro us w B hB0 hr
 obtain ⟨A3, c3, rfl, r3⟩ := hr.node
 have hww := hw
 rw [FNode.wt_eq] at hw
 have hz : z2.size ≤ 9223372036854775807 := qaa
 have hl : z3.length ≤ 9000000000 := qaa
 have HR0 := hid r3
 obtain ⟨m, hm⟩ : ∃ m, z3.length = m := ⟨_, rfl⟩
 try rw [hm] at hl r3 ⊢
 have HR := hid r3
 have HB := Hf w (.slice A3 m c3)
 clear hr r3
 clear hm hw hww HR0
 have HT := hid (show (z2.toList == [116, 104, 105, 115]) = isTh z2 from rfl)
 go_enter Tryz.func73, Tryz.ntmps73
 go_wp2_with (fail)
 all_goals (go_ret; exact ⟨ret_bool qal, HB.out⟩)) : P := h
theorem zz34 {P : Prop} (h : P := by
 have HT := hid (tg_eq ⟨y0, y1, y2, y3⟩ (by simp at hv; exact hv.1))
 rw [hv, show hdT [FNode.mk y0 y1 y2 y3, yb] = tgN ⟨y0, y1, y2, y3⟩ from rfl] at EX
 rw [hv] at CALL
 clear hm hw hv
 go_enter Tryz.func106, Tryz.ntmps106
 go_wp2_with (first | (go_at_call 110; refine CALL.out.mono ?_; rintro e w3 ⟨rfl, hb3⟩; have HB3 := hid (HB.out.trans (hb3.mono HB.out.size)); have bx : w3.cell? ⟨w.heap.size, 3, none⟩ = some (.slice (some ⟨bcy, offcy, none⟩) 2 c3) := (hb3.cell (p := ⟨w.heap.size, 3, none⟩) qa8).trans (by rw [World.cell?_alloc_new]; rfl); have ⟨_, _, _, _⟩ := cell4 HB3.out hbl c_0 c_1 c_2 c_3) | (go_at_call 134; refine (isT_impl ⟨y0, y1, y2, y3⟩ hy [.int .i64 y0, .int .i64 y1, .string y2, .slice Dy y3.length dy] _ w.heap.size HB3.out.size (ndV ((Qy.out.up hB0).below HB3.out nr))).mono ?_; rw [HT.out]; rintro e w4 ⟨rfl, hb4⟩))
 all_goals (first | (go_ret; exact ⟨ret_bool qac, HB.out⟩) | (go_ret; exact ⟨ret_bool qac, HB3.out.trans (Below.mono qad HB3.out.size)⟩))) : P := h
theorem zz35 {P : Prop} (h : P := by
 intro us w B hB0 hr
 obtain ⟨A3, c3, rfl, r3⟩ := hr.node
 have hww := hw
 rw [FNode.wt_eq] at hw
 have hz : z2.size ≤ 9223372036854775807 := qaa
 have hl : z3.length ≤ 9000000000 := qaa
 obtain ⟨m, hm⟩ : ∃ m, z3.length = m := ⟨_, rfl⟩
 try rw [hm] at hl r3 ⊢
 have HR := hid r3
 have TX0 := Tf w A3 m c3
 clear hr r3
 clear hm hw hww
 have HT := hid (show (z2.toList == [116, 104, 105, 115]) = isTh z2 from rfl)
 go_enter Tryz.func57, Tryz.ntmps57
 go_wp2_with fail
 all_goals (go_ret; exact ⟨ret_bool qal, TX0.1⟩)) : P := h
theorem zz36 {P : Prop} (h : P := by
 go_wp2_with (first | (go_at_call 127; refine zkp (isLetter_any _ _ qaa qaa) ?_) | (go_at_call 128; refine zkp (isDigit_any _ _ qaa qaa) ?_))
 go_round
 case rel => exact ⟨k + 1, by omega, by go_num, GO.out HT.out⟩
 case measure => simp [intOf]; omega) : P := h
theorem zz37 {P : Prop} (h : P := by
 obtain rfl : k = l.length := qaa
 clear hlt
 go_wp2_with fail
 go_ret
 have e := HO1.out
 rw [List.take_length, List.drop_length] at e
 have e2 := HKK.out
 rw [List.take_length] at e2
 exact ⟨ret_int e2, by simpa using e, HGG.out⟩) : P := h
theorem zz38 {P : Prop} (h : P := by
 go_roundw
 case rel => exact ⟨m + 1, by omega, by go_num, hS.out⟩
 case measure => simp [intOf]; omega) : P := h
theorem zz39 {P : Prop} (h : P := by
 by_cases e : j = k
 ·subst e
  rw [HX.out] at hjy
  injection hjy with hjy
  subst hjy
  exact HQ.out
 ·exact HNO.out j y qaa hjy) : P := h
theorem zz40 {P : Prop} (h : P := by
 obtain rfl : k = l.length := qaa
 clear hlt
 go_wp2_with fail
 go_ret
 exact ⟨ret_int (fidx_miss fun j y hy => HNO.out j y (List.getElem?_eq_some_iff.1 hy).1 hy).symm, hb⟩) : P := h
theorem zz41 {P : Prop} (h : P := by
 (go_ret2; exact ⟨ret_two qap qaj, HB.out.trans (hb3.mono HB.out.size)⟩)) : P := h
theorem zz42 {P : Prop} (h : P := by
 go_enter Tryz.func73, Tryz.ntmps73
 go_wp2_with (fail)
 all_goals (go_ret; exact ⟨ret_bool qal, HB.out⟩)) : P := h
theorem zz43 {P : Prop} (h : P := by
 rw [hv] at CALL EX
 go_enter Tryz.func70, Tryz.ntmps70
 go_wp2_with (first | (go_at_call 67; refine zkp (inRange_any _ _ _ _) ?_) | (go_at_call 106; refine CALL.out.mono ?_; rintro e w3 ⟨rfl, hb3⟩; have HB3 := hid (HB.out.trans (hb3.mono HB.out.size)); have bx_3 : w3.cell? ⟨w.heap.size, 3, none⟩ = some (.slice (some ⟨bcy, offcy, none⟩) 2 c3) := (hb3.cell (p := ⟨w.heap.size, 3, none⟩) qa8).trans (by rw [World.cell?_alloc_new]; rfl)) | (go_at_call 108; refine (HL.out _ _ w.heap.size (hmx.below HB3.out) HB3.out.size ((RT.out.up hB0).below HB3.out nr)).mono ?_; rintro e w4 ⟨rfl, hb4⟩))
 all_goals (first | (go_ret; exact ⟨ret_bool qac, HB.out⟩) | (go_ret; exact ⟨ret_bool qac, HB3.out.trans (Below.mono qad HB3.out.size)⟩))) : P := h
theorem zz44 {P : Prop} (h : P := by
 replace ba := ba.below hb nr
 replace bb := bb.below hb nr
 replace hB := hB.trans (hb.mono qaa)
 clear hb
 have ba_l := ba.lt
 have bb_l := bb.lt
 go_wp2_with fail
 go_ret
 exact ⟨rfl, hB⟩) : P := h
theorem zz45 {P : Prop} (h : P := by
 have e1_ : (y0 == 50) = false := by rw [beq_eq_false_iff_ne]; exact h50
 have e2_ : (y0 == 51) = false := by rw [beq_eq_false_iff_ne]; exact h51
 have e3_ : (y0 != 50) = true := by rw [bne_iff_ne]; exact h50
 have e4_ : (y0 != 51) = true := by rw [bne_iff_ne]; exact h51
 have L5 := hid ((L4.below (bw (.cells #[.int .i64 y0, .int .i64 y1, .string y2, .slice Dy y3.length dy] 44))).skip (by intro h; rcases h with h | h; exact h50 h; exact h51 h))
 clear L4 bw
 go_wp2_with fail
 go_roundw
 case rel => exact ⟨m + 1, by omega, by go_num, L5.out⟩
 case measure => simp [intOf]; omega) : P := h
theorem zz46 {P : Prop} (h : P := by
 go_wp2_with fail
 all_goals (go_meet; exact ⟨by rw [HAT.out], by rw [HOK.out]; first | done | rfl | (rw [beq_0]) | (simp_all [beq_0]; done), X5⟩)) : P := h
theorem zz47 {P : Prop} (h : P := by
 have h := Qb'
 unfold RdC at h
 obtain ⟨A', c', hA, k1, k2, _, _⟩ := h
 simp only [Value.slice.injEq, true_and] at hA
 have : [⟨p0, p1, p2, p3⟩, q].length = 2 := rfl
 omega) : P := h
theorem zz48 {P : Prop} (h : P := by
 first | exact (Below.refl _ _).alloc nr _ | ((repeat (refine Below.setCell ?_ qag _)); exact hB.out)) : P := h
theorem zz49 {P : Prop} (h : P := by
 clear hq
 have bN2 := bN.cell 2
 have bC0 := bC.cell 0
 have bC1 := bC.cell 1
 have bC2 := bC.cell 2
 have bC3 := bC.cell 3
 have bCl := bC.lt
 have bCf := fun i => bC.frozen i
 have bR0 := bR.cell 0
 have bR1 := bR.cell 1
 have bR2 := bR.cell 2
 have bR3 := bR.cell 3
 have bRl := bR.lt
 have bRf := fun i => bR.frozen i
 go_wp2_with (fail)
 refine bodyPost_ret (v := .tuple #[.agg #[.string z2, .string ⟨#[]⟩, .slice none 0 0, .slice none 0 0], .int .i64 1]) qam rfl ⟨z2, ⟨#[]⟩, none, 0, 0, none, 0, 0, rfl, ?_, fun h => by cases h⟩
 repeat (refine Below.setCell ?_ qag _)
 exact HB.out) : P := h
theorem zz50 {P : Prop} (h : P := by
 have n1_ : (R.1 == 0) = false := by rw [beq_eq_false_iff_ne]; exact h0
 have n2_ : (R.1 != 0) = true := by rw [bne_iff_ne]; exact h0
 go_wp2_with (go_at_call 43; refine LI.out.mono ?_; rintro e w5 ⟨va, vb, A1, n1, c1, A2, n2, c2, rfl, hb, hr⟩; have HB5 := hid hb; clear hr hb)
 refine bodyPost_ret (v := .tuple #[.slice none 0 0, .int .i64 R.1]) (by simp [results, Tryz.results22, go_sem]) rfl ⟨none, 0, 0, by rw [EB.out], by rw [EB.out]; exact ⟨[], OwnL.one (OwnC.nil _ _ _), List.nodup_nil, fun b hb => by cases hb⟩, (B1h.out.trans (HB5.out.mono B1h.out.size)).alloc (Nat.le_trans B1h.out.size HB5.out.size) _⟩) : P := h
theorem zz51 {P : Prop} (h : P := by
 cases z3 with
 | nil => simp at hk1
 | cons a r => exact ⟨a, r, rfl⟩) : P := h
theorem zz52 {P : Prop} (h : P := by
 clear hx hno
 go_upto_region 4 with fail
 go_quiet (fail)
 go_wp2_with fail
 go_roundw
 case rel => exact ⟨k + 1, by omega, by go_num, below_drewN HBX.out _⟩
 case measure => simp [intOf]; omega) : P := h
theorem zz53 {P : Prop} (h : P := by
 rw [hi] at F3
 clear hcq hi FI
 go_wp2_with (go_at_call 36; refine (F3.out _ HB3.out).mono ?_; rintro e w4 ⟨rfl, hb, hb2⟩; have HB4 := hid hb2; clear hb hb2)
 refine bodyPost_ret (v := .tuple #[.slice (some ⟨w4.heap.size, 0, none⟩) 0 0, .int .i64 2]) qan rfl ⟨_, 0, 0, by rw [EB.out], by rw [EB.out]; first | exact owni_emp0 (B1h.out.trans (HB4.out.mono B1h.out.size)) | exact owni_emp1 (B1h.out.trans (HB4.out.mono B1h.out.size)), by first | exact below_emp0 (B1h.out.trans (HB4.out.mono B1h.out.size)) | exact below_emp1 (B1h.out.trans (HB4.out.mono B1h.out.size))⟩) : P := h
theorem zz54 {P : Prop} (h : P := by
 go_wp2_with (first | (go_at_call 53; refine FDX.out.mono ?_; rintro e w5 ⟨rfl, hb5⟩; have X5 := X0.call hb5; have p9 := X5.2.1; have p0 := X5.2.2.2.1; have p1 := X5.2.2.2.2.1; have p2 := X5.2.2.2.2.2.1; have p3 := X5.2.2.2.2.2.2.1) | (go_at_call 54; refine (ST.out [.int .i64 49, .int .i64 n1, .string n2, .slice D n3.length d] _ w.heap.size X5.1.size (ndV ((Q3.out.up hB0).below X5.1 nr))).mono ?_; rintro e w6 ⟨rfl, hb6⟩; have X6 := X5.call hb6; have r9 := X6.2.1; have r0 := X6.2.2.2.1; have r1 := X6.2.2.2.2.1; have r2 := X6.2.2.2.2.2.1; have r3 := X6.2.2.2.2.2.2.1))
 go_ret
 exact ⟨ret_bool qa0, X6.1⟩) : P := h
theorem zz55 {P : Prop} (h : P := by
 go_wp2_with (first | (go_at_call 53; refine FDX.out.mono ?_; rintro e w5 ⟨rfl, hb5⟩; have X5 := X0.call hb5; have p9 := X5.2.1; have p0 := X5.2.2.2.1; have p1 := X5.2.2.2.2.1; have p2 := X5.2.2.2.2.2.1; have p3 := X5.2.2.2.2.2.2.1) | (go_at_call 54; refine (ST.out [.int .i64 50, .int .i64 n1, .string n2, .slice D n3.length d] _ w.heap.size X5.1.size (ndV ((Q3.out.up hB0).below X5.1 nr))).mono ?_; rintro e w6 ⟨rfl, hb6⟩; have X6 := X5.call hb6; have r9 := X6.2.1; have r0 := X6.2.2.2.1; have r1 := X6.2.2.2.2.1; have r2 := X6.2.2.2.2.2.1; have r3 := X6.2.2.2.2.2.2.1))
 go_ret
 exact ⟨ret_bool qa0, X6.1⟩) : P := h
theorem zz56 {P : Prop} (h : P := by
 go_wp2_with (first | (go_at_call 53; refine FDX.out.mono ?_; rintro e w5 ⟨rfl, hb5⟩; have X5 := X0.call hb5; have p9 := X5.2.1; have p0 := X5.2.2.2.1; have p1 := X5.2.2.2.2.1; have p2 := X5.2.2.2.2.2.1; have p3 := X5.2.2.2.2.2.2.1) | (go_at_call 54; refine (ST.out [.int .i64 51, .int .i64 n1, .string n2, .slice D n3.length d] _ w.heap.size X5.1.size (ndV ((Q3.out.up hB0).below X5.1 nr))).mono ?_; rintro e w6 ⟨rfl, hb6⟩; have X6 := X5.call hb6; have r9 := X6.2.1; have r0 := X6.2.2.2.1; have r1 := X6.2.2.2.2.1; have r2 := X6.2.2.2.2.2.1; have r3 := X6.2.2.2.2.2.2.1))
 go_ret
 exact ⟨ret_bool qa0, X6.1⟩) : P := h
theorem zz57 {P : Prop} (h : P := by
 go_wp2_with fail
 all_goals (go_meet; exact ⟨by first | rfl | (simp_all [lpN]; done), by first | rfl | (simp_all [inN]; done), rfl⟩)) : P := h
theorem zz58 {P : Prop} (h : P := by
 have Q3 := hid (show (decide (1 ≤ p.size) && partF p) = false from by rw [q3]; simp)
 have HF := hid (fold_n (r := rest) (acc := acc) Q0.out Q1.out Q2.out q3)
 clear q3
 obtain ⟨e1, e2⟩ := sp_none (s := s) qbk
 have EE := hid (And.intro e1 e2)
 clear e1 e2
 go_wp2_with (go_at_call 82; refine (part_spec p _ hps).mono ?_; rw [Q3.out]; rintro e w' ⟨rfl, rfl⟩)
 go_ret2
 exact HE.out _ [] false EE.out.1 EE.out.2 _ _ (ownsRow_le (own_empty _ 9 1) (by have := HB.out.size; omega)) (HB.out.alloc HB.out.size _)) : P := h
theorem zz59 {P : Prop} (h : P := by
 intro l
 induction l with
 | nil => intro i x h; simp at h
 | cons a r ih =>
  intro i x h j hj
  cases i with
  | zero =>
   obtain rfl : a = x := by simpa using h
   rw [List.flatMap_cons, Nat.zero_mul, Nat.zero_add, List.getElem?_append_left (by rw [hk]; exact hj)]
  | succ i =>
   have h' : r[i]? = some x := by simpa using h
   have e : (i + 1) * k + j = (cf a).length + (i * k + j) := by rw [hk, Nat.succ_mul]; omega
   rw [List.flatMap_cons, e, List.getElem?_append_right qaa, Nat.add_sub_cancel_left]
   exact ih i x h' j hj) : P := h
theorem zz60 {P : Prop} (h : P := by
 rw [hv] at CALL
 go_wp2_with (first | (go_at_call 67; refine zkp (inRange_any _ _ _ _) ?_) | (go_at_call 110; refine CALL.out.mono ?_; rintro e w' ⟨rfl, hb3⟩))
 all_goals first
  | (go_ret; exact ⟨ret_bool qay, hb2.out⟩)
  | (go_ret; exact ⟨ret_bool qay, hb2.out.trans (Below.mono qad hb2.out.size)⟩)
  | (go_roundw
     case rel => exact ⟨k + 1, by omega, by go_num, hid (all_on HX.out HA.out qbq), hb2.out.trans (Below.mono qad hb2.out.size)⟩
     case measure => simp [intOf]; omega)) : P := h
theorem zz61 {P : Prop} (h : P := by
 go_enter Tryz.func53, Tryz.ntmps53
 go_wp2_with (first | (go_at_call 86; refine HSP.out.mono ?_; rintro e w3 ⟨rfl, hb3⟩; have HB3 := hid (HB.out.trans (hb3.mono HB.out.size))) | (go_at_call 85; clear tok1; refine (GoS _ false hsa hg _).mono ?_; rintro e w4 ⟨rfl, hb4⟩; have HB4 := hid (HB3.out.trans (hb4.mono HB3.out.size))) | (go_at_call 85; refine (GoS _ _ hsb rfl _).mono ?_; rintro e w5 ⟨rfl, hb5⟩))
 all_goals (first | (go_ret2; exact ⟨ret_two rfl qbo, HB4.out.trans (hb5.mono HB4.out.size)⟩) | (go_ret2; exact ⟨ret_two rfl qbo, HB4.out⟩))) : P := h
theorem zz62 {P : Prop} (h : P := by
 go_wp2_with fail
 all_goals (go_meet; exact ⟨by first | rfl | (simp_all [bdS]; done), X0⟩)) : P := h
theorem zz63 {P : Prop} (h : P := by
 intro us w B hB0 hr
 obtain ⟨A3, c3, rfl, r3⟩ := hr.node
 rw [FNode.wt_eq] at hw
 have hz : z2.size ≤ 9223372036854775807 := qaa
 have hz9 : z2.size ≤ 9000000000 := qaa
 simp only [FNode.kd, FNode.nu, FNode.tx]
 rw [EN.out, ET.out]
 have HB := Hf w (.slice A3 z3.length c3)
 clear hr r3 hw EN ET
 have hd : decide ((z2.size : Int) ≤ 400) = decide (z2.size ≤ 400) := by rw [decide_eq_decide]; omega
 go_enter Tryz.func53, Tryz.ntmps53
 go_wp2_with (fail)
 all_goals (go_ret2; exact ⟨ret_two rfl (by first | exact hd | rfl | simp), HB.out⟩)) : P := h
theorem zz64 {P : Prop} (h : P := by
 clear hb
 go_enter Tryz.func40, Tryz.ntmps40
 go_wp2_with (first | (go_at_call 65; refine (SplitPath_impl s _ hs hm).mono ?_; rw [HB.out]; rintro e w2 ⟨A, c, rfl, own2, hb2⟩; have O2 := hid own2; have B2 := hid hb2; clear own2 hb2) | (go_at_call 66; refine (joinC (spV s) A c _ O2.out HVS.out qaa).mono ?_; rintro e w3 ⟨rfl, hb3⟩; have B3 := hid (B2.out.trans (hb3.mono B2.out.size)); clear hb3) | (go_at_call 67; refine zkp (inRange_any _ _ _ _) ?_))
 go_ret2
 rw [R.out, R2.out]
 exact ⟨rfl, B3.out⟩) : P := h
theorem zz65 {P : Prop} (h : P := by
 go_wp2_with (first | (go_at_call 51; refine (l1In_any _ _ _ _).mono ?_; rw [HIN.out]; rintro e w' ⟨rfl, rfl⟩) | (go_at_call 85; refine (GoS _ true HZ.out hgy _).mono ?_; rintro e w3 ⟨rfl, hb3⟩; have HB3 := hid (hb2.out.trans (hb3.mono hb2.out.size)); have bx_3 : w3.cell? ⟨wr.heap.size, 3, none⟩ = some (.slice D2 q d2) := (hb3.cell (p := ⟨wr.heap.size, 3, none⟩) qav).trans (by rw [World.cell?_alloc_new]; rfl)))
 go_ret
 exact ⟨ret_bool HF.out.symm, HB3.out⟩) : P := h
theorem zz66 {P : Prop} (h : P := by
 have dz : ((acc.length : Int) == 0) = true := by simp [hz]
 have HF := hid (fold_u0 (r := rest) (acc := acc) Q0.out Q1.out q2 hz)
 clear q2
 obtain ⟨e1, e2⟩ := sp_none (s := s) qbk
 have EE := hid (And.intro e1 e2)
 clear e1 e2
 go_wp2_with fail
 go_ret2
 exact HE.out _ [] false EE.out.1 EE.out.2 _ _ (ownsRow_le (own_empty _ 9 1) (by have := HB.out.size; omega)) (HB.out.alloc HB.out.size _)) : P := h
theorem zz67 {P : Prop} (h : P := by
 go_enter Tryz.func68, Tryz.ntmps68
 go_wp2_with (first | (go_at_call 102; refine CALL.out.mono ?_; rintro e w3 ⟨rfl, hb3⟩; have HB3 := hid (HB.out.trans (hb3.mono HB.out.size)); have ⟨bx_0, bx_1, bx_2, bx_3⟩ := box4 hb3) | (go_at_call 103; refine (HD.out [.int .i64 z0, .int .i64 z1, .string z2, .slice A3 z3.length c3] _ w.heap.size HB3.out.size (ndV ((HR.out.up hB0).below HB3.out nr))).mono ?_; rintro e w4 ⟨rfl, hb4⟩))
 all_goals (go_ret; exact ⟨ret_bool qbj, HB3.out.trans (hb4.mono HB3.out.size)⟩)) : P := h
theorem zz68 {P : Prop} (h : P := by
 refine wpAnyH_done qab ?_ _
 go_wp2_with fail
 go_ret
 exact ⟨ret_bool qal, TX6.1⟩) : P := h
theorem zz69 {P : Prop} (h : P := by
 go_roundw
 case rel => exact ⟨k + 1, by omega, by go_num, hbd.trans (hb2.mono hbd.size)⟩
 case measure => simp [intOf]; omega) : P := h
theorem zz70 {P : Prop} (h : P := by
 obtain rfl : k = z3.length := qaa
 clear hlt
 have h := HA.out
 rw [List.take_length] at h
 rw [h] at EX2
 go_wp2_with fail
 go_ret
 exact ⟨ret_bool EX2.out.symm, hb⟩) : P := h
theorem zz71 {P : Prop} (h : P := by
 go_enter Tryz.func52, Tryz.ntmps52
 go_wp2_with (first | (go_at_call 83; refine CALL.out.mono ?_; rintro e w3 ⟨rfl, hb3⟩; have HB3 := hid (HB.out.trans (hb3.mono HB.out.size)); have ⟨bx_0, bx_1, bx_2, bx_3⟩ := box4 hb3) | (go_at_call 84; refine (HD.out [.int .i64 z0, .int .i64 z1, .string z2, .slice A3 z3.length c3] _ w.heap.size HB3.out.size (ndV ((HR.out.up hB0).below HB3.out nr))).mono ?_; rintro e w4 ⟨rfl, hb4⟩))
 all_goals (go_ret; exact ⟨ret_bool qbj, HB3.out.trans (hb4.mono HB3.out.size)⟩)) : P := h
theorem zz72 {P : Prop} (h : P := by
 (refine lgt (i := 17) rfl qz hHeld ?_; try simp only [aS])
 (refine lgt (i := 18) rfl qz hHeld ?_; try simp only [aS])
 refine lateDone qab ?_ _
 go_wp2_with fail
 go_roundw
 case rel => exact ⟨k + 1, by omega, by go_num, by rw [HS.out]; rfl, _, _, by rw [HS.out]; exact M3.out.drop hsl⟩
 case measure => simp [intOf]; omega) : P := h
theorem zz73 {P : Prop} (h : P := by
 by_cases e4 : y0 = 4
 ·subst e4
  go_wp2_with fail
  go_ret
  exact ⟨ret_bool (by rw [← HT.out, HE.out]; rfl), hb2.out⟩
 ·by_cases e8 : y0 = 8
  ·subst e8
   go_wp2_with fail
   go_ret
   exact ⟨ret_bool (by rw [← HT.out, HE.out]; rfl), hb2.out⟩
  ·go_wp2_with fail
   go_ret
   exact ⟨ret_bool (by rw [← HT.out, HE.out, beq_false_of_ne e4, beq_false_of_ne e8]), hb2.out⟩) : P := h
theorem zz74 {P : Prop} (h : P := by
 rw [hv] at CALL EX
 clear hv
 go_enter Tryz.func70, Tryz.ntmps70
 go_wp2_with (first | (go_at_call 67; refine zkp (inRange_any _ _ _ _) ?_) | (go_at_call 106; refine CALL.out.mono ?_; rintro e w3 ⟨rfl, hb3⟩; have HB3 := hid (HB.out.trans (hb3.mono HB.out.size))))
 all_goals (first | (go_ret; exact ⟨ret_bool qac, HB.out⟩) | (go_ret; exact ⟨ret_bool qac, HB3.out⟩) | (go_ret; exact ⟨ret_bool qac, HB3.out.trans (Below.mono qad HB3.out.size)⟩))) : P := h
theorem zz75 {P : Prop} (h : P := by
 go_wp2_with ((go_at_call 71; refine zkp (isFn_impl _ _) ?_))
 all_goals (go_meet; refine ⟨?_, ?_, CkS.ext (X0.put hg 1 qae true) ?_⟩; (first | rfl | (simp_all [lpN]; done)); (first | rfl | (simp_all [inN]; done)); intro r hr; match r, hr with | 0, _ => simp [upb, swB, bdI, isFn] | 1, _ => simp [upb, swB, bdI, isFn] | 2, _ => simp [upb, swB, bdI, isFn] | 3, _ => simp [upb, swB, bdI, isFn] | 4, _ => simp_all [upb, swB, bdI, isFn] | 5, _ => simp_all [upb, swB, bdI, isFn])) : P := h
theorem zz76 {P : Prop} (h : P := by
 rw [HV.out]
 rintro e w2 ⟨rfl, hb2⟩
 go_wp2_with fail
 go_roundw
 case rel =>
  have e := HT.out
  have e9 := HV.out
  rw [← HU.out] at *
  refine ⟨k + 1, by omega, by go_num, ?_, by rw [e, HU.out]; omega, hb.trans (hb2.mono hb.size)⟩
  rw [HBP.out, e, HU.out]
  congr 1
  omega
 case measure => simp [intOf]; omega) : P := h
theorem zz77 {P : Prop} (h : P := by
 clear hlt
 go_wp2_with fail
 go_ret
 have hz0 : zs = [] := List.eq_nil_of_length_eq_zero (by rw [HZS.out]; simp)
 have hr1 := HROW.out
 have ho1 := HOWN.out
 rw [hz0, List.append_nil] at hr1
 rw [List.take_length] at ho1
 exact ⟨_, _, rfl, OwnI.mk hr1 ho1 (fun g hg => by have : w.heap.size = g := by simpa [Value.ownBlock] using hg
                                                   omega) qaa nr, hb⟩) : P := h
theorem zz78 {P : Prop} (h : P := by
 (first | (go_ret; exact ⟨ret_bool qac, HB.out⟩) | (go_ret; exact ⟨ret_bool qac, HB3.out⟩) | (go_ret; exact ⟨ret_bool qac, HB3.out.trans (Below.mono qad HB3.out.size)⟩))) : P := h
theorem zz79 {P : Prop} (h : P := by
 rw [List.getElem?_map] at hci
 cases e : K[i]? with
 | none => rw [e] at hci; cases hci
 | some p => rw [e] at hci; exact ⟨p, rfl, Option.some.inj hci⟩) : P := h
theorem zz80 {P : Prop} (h : P := by
 have hk := (List.getElem?_eq_some_iff.1 h).1
 rw [List.drop_eq_getElem_cons hk, (List.getElem?_eq_some_iff.1 h).2]) : P := h
theorem zz81 {P : Prop} (h : P := by
 go_roundw
 case rel => exact ⟨k + 1, by omega, by go_num, hid (all_on HX.out HA.out HTE.out), X7.1, X7.2.1, X7.2.2.1⟩
 case measure => simp [intOf]; omega) : P := h
theorem zz82 {P : Prop} (h : P := by
 go_ret
 exact ⟨ret_bool HF.out.symm, hb2.out⟩) : P := h
theorem zz83 {P : Prop} (h : P := by
 repeat (refine Below.setCell ?_ qag _)
 exact hB.out) : P := h
theorem zz84 {P : Prop} (h : P := by
 obtain ⟨b', off', e', -, -, k0, k1, k2, k3⟩ := RK.out X hb
 cases e'
 exact ⟨k0, k1, k2, k3⟩) : P := h
theorem zz85 {P : Prop} (h : P := by
 rw [hv] at CALL
 go_wp2_with (first | (go_at_call 104; refine zkp (GoV _ _ hzy hgy _) ?_) | (go_at_call 67; refine (inRange_any _ _ _ _).mono ?_; rw [HIN.out]; rintro e w' ⟨rfl, rfl⟩) | (go_at_call 105; refine CALL.out.mono ?_; rintro e w2 ⟨rfl, hb3⟩))
 go_ret; exact ⟨ret_bool qah, (hb2.out.trans (hb3.mono hb2.out.size))⟩) : P := h
theorem zz86 {P : Prop} (h : P := by
 obtain ⟨A3, c3, rfl, r3⟩ := hr.node
 have hww := hw
 rw [FNode.wt_eq] at hw
 have hz : z2.size ≤ 9223372036854775807 := qaa
 have hl : z3.length ≤ 9223372036854775807 := qaa
 have HB := hbA w z0 0 z2 (.slice A3 z3.length c3)
 clear hr r3 hw hww
 go_enter Tryz.func69, Tryz.ntmps69
 go_wp2_with ((go_at_call 104; refine zkp (GoV _ _ hz hgo _) ?_))
 all_goals (go_ret; exact ⟨rfl, HB.out⟩)) : P := h
theorem zz87 {P : Prop} (h : P := by
 clear bY
 cases hok : sj.ok
 all_goals
  go_wp2_with fail
  go_roundw
  case rel => exact ⟨k + 1, by omega, by go_num, by rw [HSK.out]; show _ = Value.bool (!sj.ok); rw [hok]; rfl, _, _, by rw [HSK.out]; exact M1.out.drop hsl⟩
  case measure => simp [intOf]; omega) : P := h
theorem zz88 {P : Prop} (h : P := by
 have HT := hid hv
 rw [hv] at CALL
 clear hv
 go_wp2_with (go_at_call 70; refine CALL.out.mono ?_; rintro e w2 ⟨rfl, hb3⟩)
 go_roundw
 case rel => exact ⟨k + 1, by omega, by go_num, hid (all_on HX.out HA.out HT.out), hb2.trans (hb3.mono hb2.size)⟩
 case measure => simp [intOf]; omega) : P := h
theorem zz89 {P : Prop} (h : P := by
 go_wp2_with fail
 go_quiet ((go_at_call 51; exact l1q _ _ _ _ (by first | exact HMX.out | exact HMY.out) _ _))
 go_wp2_with fail
 go_roundw
 case rel => exact ⟨q + 1, by omega, by go_num, HNQ, below_drewN hb _⟩
 case measure => simp [intOf]; omega) : P := h
theorem zz90 {P : Prop} (h : P := by
 go_ret
 exact ⟨ret_bool HF.out.symm, rfl⟩) : P := h
theorem zz91 {P : Prop} (h : P := by
 obtain rfl : k = l.length := qaa
 clear hlt
 go_wp2_with fail
 go_ret
 exact ⟨rfl, hb⟩) : P := h
theorem zz92 {P : Prop} (h : P := by
 go_wp2_with (first | (go_at_call 51; refine (l1In_any _ _ _ _).mono ?_; rw [HIN.out]; rintro e w' ⟨rfl, rfl⟩) | (go_at_call 85; refine (GoS _ false HZ.out hgy _).mono ?_; rintro e w3 ⟨rfl, hb3⟩; have HB3 := hid (hb2.out.trans (hb3.mono hb2.out.size))))
 go_ret
 exact ⟨ret_bool HF.out.symm, HB3.out⟩) : P := h
theorem zz93 {P : Prop} (h : P := by
 go_enter Tryz.func92, Tryz.ntmps92
 go_wp2_with fail
 all_goals (go_ret; exact ⟨ret_bool HF.out.symm, HB2.out⟩)) : P := h
theorem zz94 {P : Prop} (h : P := by
 go_wp2_with fail
 all_goals (go_meet; exact ⟨by rw [HE.out]; first | done | rfl | (simp_all; done), X5⟩)) : P := h
theorem zz95 {P : Prop} (h : P := by
 (first | (go_ret; exact ⟨ret_bool qai, HBc.out⟩) | (go_ret; exact ⟨ret_bool qai, HBc.out.alloc HBc.out.size _⟩) | (go_ret; exact ⟨ret_bool qai, HBc.out.trans (Below.mono qad HBc.out.size)⟩))) : P := h
theorem zz96 {P : Prop} (h : P := by
 clear hK K
 try simp only [aS]
 (refine rgt rfl rfl qz qad ?_; try simp only [aS])
 iterate 16 (refine rgS rfl qab rfl (fun _ _ _ h => h) qar qad ?_; try simp only [aS])
 iterate 2 (refine rgt rfl rfl qz qad ?_; try simp only [aS])
 refine wpAnyH_done qab ?_ _
 go_wp2_with fail
 go_ret
 exact ⟨ret_bool (rfl), TX5.1⟩) : P := h
theorem zz97 {P : Prop} (h : P := by
 clear hm hr
 go_enter Tryz.func112, Tryz.ntmps112
 go_wp2_with (first | (go_at_call 108; clear tok1; refine CA.out.mono ?_; rintro e w3 ⟨rfl, hb3⟩; have HB3 := hid hb3; have ⟨_, _, _, _⟩ := cell4 HB3.out hbl cb_0 cb_1 cb_2 cb_3) | (go_at_call 104; refine zkp (GoV _ _ hz hgo _) ?_))
 go_ret
 exact ⟨rfl, HB3.out.alloc HB3.out.size _⟩) : P := h
theorem zz98 {P : Prop} (h : P := by
 obtain rfl : k = l.length := qaa
 clear hlt
 go_wp2_with fail
 go_ret
 have h := HA.out
 rw [List.take_length] at h
 exact ⟨ret_bool h.symm, hb⟩) : P := h
theorem zz99 {P : Prop} (h : P := by
 rw [HV.out]
 rintro e w2 ⟨rfl, hb2⟩
 go_wp2_with fail
 go_ret
 refine ⟨ret_int ?_, hb.trans (hb2.mono hb.size)⟩
 have e := HT.out
 have e2 := HL.out
 have e3 := HU.out
 have e4 := HV.out
 rw [bud_neg qaa]) : P := h
theorem zz100 {P : Prop} (h : P := by
 obtain rfl : k = l.length := qaa
 clear hlt
 go_wp2_with fail
 go_ret
 have e2 := HKK.out
 rw [List.take_length] at e2
 exact ⟨ret_int e2, hb⟩) : P := h
theorem zz101 {P : Prop} (h : P := by
 go_wp2_with fail
 go_roundw
 case rel =>
  unfold IRel
  exact ⟨k + 1, g, c, acc, by omega, by go_num, rfl, OWN.out, HNE.out, by rw [← HRS.out, ← HF.out, ← HDR.out]; exact HFO.out, HPC.out, HB.out, by omega⟩
 case measure => simp [intOf]; omega) : P := h
theorem zz102 {P : Prop} (h : P := by
 (first | (go_ret; exact ⟨ret_bool qac, HB.out⟩) | (go_ret; exact ⟨ret_bool qac, HB4.out⟩) | (go_ret; exact ⟨ret_bool qac, HB4.out.trans (Below.mono qad HB4.out.size)⟩))) : P := h
theorem zz103 {P : Prop} (h : P := by
 go_wp2_with fail
 go_roundw
 case rel =>
  unfold SRel
  exact ⟨s.size + 1, s.size + 1, g, c, acc, by go_num, by go_num, rfl, OWN.out, .inr ⟨rfl, HNX.out _ qbg⟩, HB.out, by omega⟩
 case measure => simp [intOf] <;> omega) : P := h
theorem zz104 {P : Prop} (h : P := by
 clear bY
 go_wp2_with fail
 go_roundw
 case rel => exact ⟨k + 1, by omega, by go_num, Lc1.next (M1.out.drop hsl) qaa HY.out (by intro h; cases h) H0.out H1.out fun s => by rw [HD.out s]; simp [FNode.isDecl, FNode.kd]⟩
 case measure => simp [intOf]; omega) : P := h
theorem zz105 {P : Prop} (h : P := by
 go_wp2_with fail
 all_goals (go_ret; exact ⟨ret_bool EX.out.symm, HB.out⟩)) : P := h
theorem zz106 {P : Prop} (h : P := by
 rw [FMethod.c_eq]
 rw [mkL_v (kk + 1) qaa]
 rw [mkL_v (kk + 1 + 1) qaa]
 rw [mkL_v (kk + 1 + 1 + 1) qaa]
 rw [mkL_v (kk + 1 + 1 + 1 + 1) qaa]
 rw [mkL_v (kk + 1 + 1 + 1 + 1 + 1) qaa]
 rw [mkL_nil]
 rfl) : P := h
theorem zz107 {P : Prop} (h : P := by
 go_wp2_with fail
 go_roundw
 case rel =>
  unfold SRel
  exact ⟨k + 1, k + 1, g, c, acc, by go_num, by go_num, rfl, OWN.out, HNX.out _ qbg, HB.out, by omega⟩
 case measure => simp [intOf]; omega) : P := h
theorem zz108 {P : Prop} (h : P := by
 go_enter Tryz.func33, Tryz.ntmps33
 go_wp2_with ((go_at_call 52; refine CALL.out.mono ?_; rintro e w3 ⟨rfl, hb3⟩; have HB3 := hid (HB.out.trans (hb3.mono HB.out.size)); have ⟨bx_0, bx_1, bx_2, bx_3⟩ := box4 hb3))
 all_goals (go_ret; exact ⟨ret_bool EX.out.symm, HB3.out⟩)) : P := h
theorem zz109 {P : Prop} (h : P := by
 exact ⟨0, k0, Nat.zero_le _, rfl, rfl, by simp [cntL], by simpa [mkL] using HO.out, OnlyF.refl _ _⟩) : P := h
theorem zz110 {P : Prop} (h : P := by
 have e1 : litV ⟨3, n, t, ks⟩ = ⟨1, 0, ⟨#[]⟩, 0, []⟩ := by
  unfold litV
  rw [if_neg (by show ¬ ((3 : Int) = 1); decide), if_neg (by show ¬ ((3 : Int) = 2); decide), if_neg (by show ¬ n = 0; exact h0), if_neg (by show ¬ n = 2; exact h2)]
 rw [e1]
 rfl) : P := h
theorem zz111 {P : Prop} (h : P := by
 by_cases h54 : x.kd = 54
 ·rw [if_pos h54, Bool.and_eq_true] at h2; exact h2.2
 ·rw [if_neg h54] at h2
  by_cases h55 : x.kd = 55
  ·rw [if_pos h55, Bool.and_eq_true] at h2; exact h2.2
  ·rw [if_neg h55] at h2; cases h2) : P := h
theorem zz112 {P : Prop} (h : P := by
 subst hJe
 rw [List.getElem?_map] at hci
 cases e : J[i]? with
 | none => rw [e] at hci; cases hci
 | some p => rw [e] at hci; exact ⟨p, rfl, Option.some.inj hci⟩) : P := h
theorem zz113 {P : Prop} (h : P := by
 exact ⟨0, Nat.zero_le _, rfl, fun j y hj => absurd hj qaa, Below.refl _ _⟩) : P := h
theorem zz114 {P : Prop} (h : P := by
 go_wp2_with fail
 all_goals (go_meet; exact ⟨by rw [HE.out]; first | done | rfl | (simp_all; done), X8⟩)) : P := h
theorem zz115 {P : Prop} (h : P := by
 rw [if_pos (show (FNode.mk 53 y1 y2 y3).kd = 53 from rfl)]
 unfold BS.use
 rw [show clAt ts (FNode.mk 53 y1 y2 y3).tx = some (FClass.mk ca cb cfs cms) from hcat]
 rfl) : P := h
theorem zz116 {P : Prop} (h : P := by
 have h : (exF a && blF b) = true := h
 rw [Bool.and_eq_true] at h
 intro y hy
 simp only [List.mem_cons, List.not_mem_nil, or_false] at hy
 rcases hy with rfl | rfl
 ·exact .inl h.1
 ·exact .bl h.2) : P := h
theorem zz117 {P : Prop} (h : P := by
 have e : emT t = true := by simpa [fT, gdK] using ht
 have e2 : t.toList = [] := by simpa [emT] using e
 rw [ba_list] at e2
 have e3 : t.data.toList.length = 0 := by rw [e2]; rfl
 have : t.size = 0 := by simpa using e3
 omega) : P := h
theorem zz118 {P : Prop} (h : P := by
 have HQ := hid hq
 rw [hq]
 clear hq
 rintro e w2 ⟨rfl, hb2⟩
 go_wp2_with fail
 go_ret
 exact ⟨ret_int (fidx_hit HX.out HQ.out HNO.out).symm, hb.trans (hb2.mono hbs)⟩) : P := h
theorem zz119 {P : Prop} (h : P := by
 go_roundw
 case rel => exact ⟨j + 1, by omega, by go_num, by rw [HS.out]; simp [hok], _, _, by rw [HS.out]; exact MY.out⟩
 case measure => simp [intOf]; omega) : P := h
theorem zz120 {P : Prop} (h : P := by
 match i, hi with
 | 0, _ => rfl
 | 1, _ => rfl
 | 2, _ => rfl
 | 3, _ => rfl
 | 4, _ => rfl
 | 5, _ => rfl) : P := h
theorem zz121 {P : Prop} (h : P := by
 split
 ·next h54 => exact h.putF (f := fldOf nm x) (fld_plain hn hx h54) (by rw [fld_nm]; exact hg)
 ·split
  ·exact h.putM (f := mthOf nm x) (mth_plain hn hx) (show x.tx.toList ∈ G from hg)
  ·exact h) : P := h
theorem zz122 {P : Prop} (h : P := by
 rw [List.any_eq_false]
 intro y hy
 obtain ⟨j, hj⟩ := List.mem_iff_getElem?.1 hy
 rw [HNO.out j y (List.getElem?_eq_some_iff.1 hj).1 hj]
 simp) : P := h
theorem zz123 {P : Prop} (h : P := by
 obtain rfl : k = z3.length := qaa
 clear hlt
 have h := HA.out
 rw [List.take_length] at h
 rw [h] at EX
 go_wp2_with fail
 all_goals (go_ret; exact ⟨ret_bool qac, hb⟩)) : P := h
theorem zz124 {P : Prop} (h : P := by
 clear hK K
 try simp only [aS]
 iterate 2 (refine rgt rfl rfl qz qad ?_; try simp only [aS])
 refine wpAnyH_done qab ?_ _
 go_wp2_with fail
 go_ret
 exact ⟨ret_bool qal, TX5.1⟩) : P := h
theorem zz125 {P : Prop} (h : P := by
 go_enter Tryz.func19, Tryz.ntmps19
 go_wp2_with (go_at_call 40; refine HC.out.mono ?_; rintro e w2 ⟨rfl, hb2⟩; have B2 := hid hb2; clear hb2)
 go_ret
 exact ⟨ret_bool R.out.symm, B2.out⟩) : P := h
theorem zz126 {P : Prop} (h : P := by
 go_enter Tryz.func14, Tryz.ntmps14
 go_wp2_with (go_at_call 32; refine HC.out.mono ?_; rintro e w2 ⟨rfl, hb2⟩; have B2 := hid hb2; clear hb2)
 go_ret
 exact ⟨ret_bool R.out.symm, B2.out⟩) : P := h
theorem zz127 {P : Prop} (h : P := by
 match l, h with
 | [], _ => rfl
 | [_], _ => rfl
 | [_, _], h => simp at h
 | _ :: _ :: _ :: _, _ => rfl) : P := h
theorem zz128 {P : Prop} (h : P := by
 unfold STbl
 rw [List.length_append, List.map_append]
 exact hown2) : P := h
theorem zz129 {P : Prop} (h : P := by
 obtain rfl : k = z3.length := qaa
 clear hlt
 have h := HP0.out
 rw [List.drop_length] at h
 go_wp2_with fail
 go_ret
 exact ⟨ret_bool (by rw [← h]; rfl), hb⟩) : P := h
theorem zz130 {P : Prop} (h : P := by
 subst e
 rw [HX.out] at hjx
 injection hjx with hjx
 subst hjx
 exact HOK.out) : P := h
theorem zz131 {P : Prop} (h : P := by
 go_wp2
 go_ret
 exact ⟨ret_bool (inB_f qaa).symm, rfl⟩) : P := h
theorem zz132 {P : Prop} (h : P := by
 exact ⟨0, Nat.zero_le _, rfl, Below.refl _ _⟩) : P := h
theorem zz133 {P : Prop} (h : P := by
 obtain ⟨Dq, dq, u0, u1, u2, u3, -⟩ := opN hb (Nat.lt_of_lt_of_le hblq hB0) hcq (offq) (offq + 1) (offq + 2) (offq + 3) qaa
 exact ⟨u0, u2⟩) : P := h
theorem zz134 {P : Prop} (h : P := by
 obtain rfl : k = l.length := qaa
 clear hlt
 go_wp2_with fail
 go_ret
 refine ⟨ret_int ?_, hb⟩
 rw [List.take_length] at *
 rw [bud_pos qaa]
 omega) : P := h
theorem zz135 {P : Prop} (h : P := by
 cases hy3 : y3 with
 | nil => rw [hy3] at hx52; exact absurd hx52 qae
 | cons a r => exact ⟨a, rfl⟩) : P := h
theorem zz136 {P : Prop} (h : P := by
 rcases HAT7.out with e2 | e2
 ·have := ULt.out b (e2.symm.trans e); omega
 ·rw [e2] at e; have e3 := Option.some.inj e; simp at e3; omega) : P := h
theorem zz137 {P : Prop} (h : P := by
 go_wp2_with fail
 go_roundw
 case rel => exact ⟨k + 1, by omega, by go_num, HS, hb2.out⟩
 case measure => simp [intOf]; omega) : P := h
theorem zz138 {P : Prop} (h : P := by
 go_round
 case rel => exact ⟨k + 1, by omega, by go_num, GO.out (nmP_dig hlt hk0 hd)⟩
 case measure => simp [intOf]; omega) : P := h
theorem zz139 {P : Prop} (h : P := by
 next hk => rw [Bool.and_eq_true] at h; exact .inr (.inr (.inl ⟨by omega, h.2, by omega⟩))) : P := h
theorem zz140 {P : Prop} (h : P := by
 exact ⟨ho.1.trans b1.os, ho.2.1.trans b1.tape, ho.2.2.trans b1.output, by rw [hs]; exact b1.size, fun k hk' => (hk k (by have := h.hbc; omega)).trans (b1.block k hk')⟩) : P := h
theorem zz141 {P : Prop} (h : P := by
 go_wp2_with fail
 all_goals (go_ret; exact ⟨rfl, rfl⟩)) : P := h
theorem zz142 {P : Prop} (h : P := by
 go_wp2_with (go_at_call 51; refine zkp (l1In_any _ _ _ _) ?_)
 go_ret2
 rw [R.out, R2.out]
 exact ⟨rfl, B2.out⟩) : P := h
theorem zz143 {P : Prop} (h : P := by
 (first | (go_ret; exact ⟨ret_bool qac, HB.out⟩) | (go_ret; exact ⟨ret_bool qac, HB5.out⟩) | (go_ret; exact ⟨ret_bool qac, HB5.out.trans (Below.mono qad HB5.out.size)⟩))) : P := h
theorem zz144 {P : Prop} (h : P := by
 obtain rfl : k = z3.length := qaa
 clear hlt
 go_wp2_with fail
 go_ret
 rw [List.take_length]
 exact ⟨by simp only [dpN]; go_num, hb⟩) : P := h
theorem zz145 {P : Prop} (h : P := by
 obtain rfl : k = l.length := qaa
 clear hlt
 have HF := hid (tw_f HA.out)
 go_wp2_with fail
 go_ret
 exact ⟨ret_bool HF.out.symm, hb⟩) : P := h
theorem zz146 {P : Prop} (h : P := by
 go_wp2_with fail
 go_ret
 exact ⟨ret_bool (by rw [HQ.out, HP0.out, HP.out]; simp), hb2.out⟩) : P := h
theorem zz147 {P : Prop} (h : P := by
 split
 ·next t ht =>
  have hc := hts t (clAt_mem ht)
  exact BS.gd.useM hn _ _ (BS.gd.useF hn _ _ h hc.f.mem) hc.m.mem
 ·exact h) : P := h
theorem zz148 {P : Prop} (h : P := by
 simp (decide := true) only [↓reduceIte, Bool.and_false, Bool.or_false]
 rfl) : P := h
theorem zz149 {P : Prop} (h : P := by
 refine ⟨h.1, ?_⟩
 rcases h.2 with hn | ⟨g, cap, cur, rfl, h1, rest⟩
 ·exact .inl hn
 ·exact .inr ⟨g, cap, cur, rfl, hg g rfl, rest⟩) : P := h
theorem zz150 {P : Prop} (h : P := by
 have HQ := hid hq
 go_wp2_with fail
 go_ret
 exact ⟨ret_int (fidx_hit HX.out HQ.out HNO.out).symm, hb.alloc hb.size _⟩) : P := h
theorem zz151 {P : Prop} (h : P := by
 match l, h with
 | [], _ => rfl
 | [_], _ => rfl
 | [_, _], h => simp at h
 | [_, _, _], h => simp at h
 | _ :: _ :: _ :: _ :: _, _ => rfl) : P := h
theorem zz152 {P : Prop} (h : P := by
 have h1 := FNode.wts_at z3 x hx
 obtain ⟨y0, y1, y2, y3⟩ := x
 rw [FNode.wt_eq] at h1
 show y3.length ≤ _
 omega) : P := h
theorem zz153 {P : Prop} (h : P := by
 exact ⟨ha, hb, (by decide : (⟨#[]⟩ : ByteArray).size ≤ 1000), rfl⟩) : P := h
theorem zz154 {P : Prop} (h : P := by
 go_wp2_with fail
 go_ret
 exact ⟨ret_bool (by rw [HBD.out, HLP.out, HIS.out]; exact HT.out.symm), hb⟩) : P := h
theorem zz155 {P : Prop} (h : P := by
 (try dsimp only)
 (exact below_drL (Below.refl _ _))) : P := h
theorem zz156 {P : Prop} (h : P := by
 rcases p.at_ with h1 | ⟨g2, h1, h2⟩
 ·exact .inl (h1 ▸ e)
 ·rw [h1] at e; exact .inr (Option.some.inj e ▸ h2)) : P := h
theorem zz157 {P : Prop} (h : P := by
 rw [hall, ← HRR.out]
 simp only [List.append_assoc, List.cons_append, List.nil_append] at P4 ⊢
 exact P4) : P := h
theorem zz158 {P : Prop} (h : P := by
 have HQ := hid hq
 go_wp2_with fail
 go_ret
 exact ⟨ret_int (fidx_hit HX.out HQ.out HNO.out).symm, hb⟩) : P := h
theorem zz159 {P : Prop} (h : P := by
 rw [nfL_map]
 match ks with
 | [] => rfl
 | [_] => rfl
 | [_, _] => rfl
 | [_, _, _] => rfl
 | _ :: _ :: _ :: _ :: _ => rfl) : P := h
theorem zz160 {P : Prop} (h : P := by
 go_ret
 exact ⟨ret_bool qa0, X7.1⟩) : P := h
theorem zz161 {P : Prop} (h : P := by
 intro us w B hB0 hr
 have FD := fd_spec _ hw
 obtain ⟨A3, c3, rfl, r3⟩ := hr.node
 rw [FNode.wt_eq] at hw
 have hz : z2.size ≤ 9223372036854775807 := qaa
 have hl : z3.length ≤ 9000000000 := qaa
 have FDC := fdC FD hn ht hB0 r3
 clear FD
 have hpos3 := r3
 obtain ⟨m, hm⟩ : ∃ m, z3.length = m := ⟨_, rfl⟩
 try rw [hm] at hl r3 FDC ⊢
 have HR := hid r3
 have HB := Hf w (.slice A3 m c3)
 clear hr r3 hpos3
 by_cases e1 : m = 1
 ·subst e1
  obtain ⟨⟨y0, y1, y2, y3⟩, rfl⟩ := List.length_eq_one_iff.mp hm
  have HV := hid (hE ⟨y0, y1, y2, y3⟩ (List.mem_singleton.mpr rfl))
  obtain ⟨bcy, offcy, Ey, hblcy, hcc⟩ := RdC.at_ (l := [FNode.mk y0 y1 y2 y3]) FNode.len HR.out (i := 0) (x := FNode.mk y0 y1 y2 y3) rfl
  obtain ⟨Dy, dy, cy_0, cy_1, cy_2, cy_3, q3⟩ := opN (Below.refl w.heap.size w) qaa hcc (offcy) (offcy + 1) (offcy + 2) (offcy + 3) qaa
  have Qy := hid q3
  clear hcc q3
  have hbl : bcy < w.heap.size := Nat.lt_of_lt_of_le hblcy hB0
  subst Ey
  clear hm hw hE
  rw [show [FNode.mk y0 y1 y2 y3].all exF = exF ⟨y0, y1, y2, y3⟩ from by simp]
  unfold ExS at HV
  generalize exF ⟨y0, y1, y2, y3⟩ = b at *
  go_enter Tryz.func54, Tryz.ntmps54
  go_wp2_with (first | (go_at_call 53; refine FDC.out.mono ?_; rintro e w3 ⟨rfl, hb3⟩; have HB3 := hid (HB.out.trans (hb3.mono HB.out.size)); have ⟨bx_w3_0, bx_w3_1, bx_w3_2, bx_w3_3⟩ := box4 hb3; have sz_w3 := szA hb3; have ⟨_, _, _, _⟩ := cell4 HB3.out hbl cy_0 cy_1 cy_2 cy_3) | (go_at_call 88; refine (HV.out [.int .i64 y0, .int .i64 y1, .string y2, .slice Dy y3.length dy] _ w.heap.size HB3.out.size (ndV ((Qy.out.up hB0).below HB3.out nr))).mono ?_; rintro e w4 ⟨rfl, hb_w4⟩; have HB4 := hid (HB3.out.trans (hb_w4.mono HB3.out.size))))
  all_goals exact zz12
 ·clear hm hw hE
  go_enter Tryz.func54, Tryz.ntmps54
  exact zz0) : P := h
theorem zz162 {P : Prop} (h : P := by
 intro us w B hB0 hr
 have FD := fd_spec _ hw
 obtain ⟨A3, c3, rfl, r3⟩ := hr.node
 rw [FNode.wt_eq] at hw
 have hz : z2.size ≤ 9223372036854775807 := qaa
 have hl : z3.length ≤ 9000000000 := qaa
 have FDC := fdC FD hn ht hB0 r3
 clear FD
 have hpos3 := r3
 obtain ⟨m, hm⟩ : ∃ m, z3.length = m := ⟨_, rfl⟩
 try rw [hm] at hl r3 FDC ⊢
 have HR := hid r3
 have HB := Hf w (.slice A3 m c3)
 clear hr r3 hpos3
 unfold EaS at hA
 rw [hm] at hA
 have HA := hid hA
 clear hA
 by_cases e1 : m = 2
 ·subst e1
  obtain ⟨⟨y0, y1, y2, y3⟩, yb, rfl⟩ := two_of hm
  have hy : (FNode.mk y0 y1 y2 y3).wt ≤ 9000000000 := by have := FNode.wts_at [FNode.mk y0 y1 y2 y3, yb] _ (List.mem_cons_self ..); omega
  obtain ⟨bcy, offcy, Ey, hblcy, hcc⟩ := RdC.at_ (l := [FNode.mk y0 y1 y2 y3, yb]) FNode.len HR.out (i := 0) (x := FNode.mk y0 y1 y2 y3) rfl
  obtain ⟨Dy, dy, cy_0, cy_1, cy_2, cy_3, q3⟩ := opN (Below.refl w.heap.size w) qaa hcc (offcy) (offcy + 1) (offcy + 2) (offcy + 3) qaa
  have Qy := hid q3
  clear hcc q3
  have hbl : bcy < w.heap.size := Nat.lt_of_lt_of_le hblcy hB0
  subst Ey
  clear hm hw
  rw [show hdT [FNode.mk y0 y1 y2 y3, yb] = tgN ⟨y0, y1, y2, y3⟩ from rfl]
  generalize [FNode.mk y0 y1 y2 y3, yb].all exF = ball at *
  cases hv : tgN ⟨y0, y1, y2, y3⟩ with
  | false =>
   have HT := hid hv
   go_enter Tryz.func88, Tryz.ntmps88
   go_wp2_with (first | (go_at_call 53; refine FDC.out.mono ?_; rintro e w3 ⟨rfl, hb3⟩; have HB3 := hid (HB.out.trans (hb3.mono HB.out.size)); have ⟨bx_w3_0, bx_w3_1, bx_w3_2, bx_w3_3⟩ := box4 hb3; have sz_w3 := szA hb3; have ⟨k_w3_y0, k_w3_y1, k_w3_y2, k_w3_y3⟩ := cell4 HB3.out hbl cy_0 cy_1 cy_2 cy_3) | (go_at_call 90; refine (tg_spec ⟨y0, y1, y2, y3⟩ hy [.int .i64 y0, .int .i64 y1, .string y2, .slice Dy y3.length dy] _ w.heap.size HB3.out.size (ndV ((Qy.out.up hB0).below HB3.out nr))).mono ?_; rw [HT.out]; rintro e w4 ⟨rfl, hb4⟩; have HB4 := hid (HB3.out.trans (hb4.mono HB3.out.size)); have ⟨bx_w4_0, bx_w4_1, bx_w4_2, bx_w4_3⟩ := cell4 hb4 sz_w3 bx_w3_0 bx_w3_1 bx_w3_2 bx_w3_3; have sz_w4 := Nat.lt_of_lt_of_le sz_w3 hb4.size))
   all_goals exact zz12
  | true =>
   have HT := hid hv
   go_enter Tryz.func88, Tryz.ntmps88
   go_wp2_with (first | (go_at_call 53; refine FDC.out.mono ?_; rintro e w3 ⟨rfl, hb3⟩; have HB3 := hid (HB.out.trans (hb3.mono HB.out.size)); have ⟨bx_w3_0, bx_w3_1, bx_w3_2, bx_w3_3⟩ := box4 hb3; have sz_w3 := szA hb3; have ⟨k_w3_y0, k_w3_y1, k_w3_y2, k_w3_y3⟩ := cell4 HB3.out hbl cy_0 cy_1 cy_2 cy_3) | (go_at_call 90; refine (tg_spec ⟨y0, y1, y2, y3⟩ hy [.int .i64 y0, .int .i64 y1, .string y2, .slice Dy y3.length dy] _ w.heap.size HB3.out.size (ndV ((Qy.out.up hB0).below HB3.out nr))).mono ?_; rw [HT.out]; rintro e w4 ⟨rfl, hb4⟩; have HB4 := hid (HB3.out.trans (hb4.mono HB3.out.size)); have ⟨bx_w4_0, bx_w4_1, bx_w4_2, bx_w4_3⟩ := cell4 hb4 sz_w3 bx_w3_0 bx_w3_1 bx_w3_2 bx_w3_3; have sz_w4 := Nat.lt_of_lt_of_le sz_w3 hb4.size) | (go_at_call 89; refine (HA.out _ _ w.heap.size HB4.out.size ((HR.out.up hB0).below HB4.out nr)).mono ?_; rintro e w5 ⟨rfl, hbe⟩; have HB5 := hid (HB4.out.trans (hbe.mono HB4.out.size))))
   all_goals exact zz12
 ·clear hm hw
  go_enter Tryz.func88, Tryz.ntmps88
  exact zz0) : P := h
theorem zz163 {P : Prop} (h : P := by
 go_enter Tryz.func54, Tryz.ntmps54
 go_wp2_with (first | (go_at_call 53; refine FDC.out.mono ?_; rintro e w3 ⟨rfl, hb3⟩; have HB3 := hid (HB.out.trans (hb3.mono HB.out.size)); have ⟨bx_w3_0, bx_w3_1, bx_w3_2, bx_w3_3⟩ := box4 hb3; have sz_w3 := szA hb3; have ⟨k_w3_y0, k_w3_y1, k_w3_y2, k_w3_y3⟩ := cell4 HB3.out hbl cy_0 cy_1 cy_2 cy_3; have ⟨k_w3_t0, k_w3_t1, k_w3_t2, k_w3_t3⟩ := cell4 HB3.out hbl ct_0 ct_1 ct_2 ct_3; have ⟨k_w3_u0, k_w3_u1, k_w3_u2, k_w3_u3⟩ := cell4 HB3.out hbl cu_0 cu_1 cu_2 cu_3; have ⟨k_w3_s0, k_w3_s1, k_w3_s2, k_w3_s3⟩ := cell4 HB3.out hbl cs_0 cs_1 cs_2 cs_3) | (go_at_call 51; refine zkp (l1In_any _ _ _ _) ?_) | (go_at_call 89; refine (Ca.out _ _ w.heap.size HB3.out.size ((RT.out.up hB0).below HB3.out nr)).mono ?_; rintro e w4 ⟨rfl, hb_w4⟩; have HB4 := hid (HB3.out.trans (hb_w4.mono HB3.out.size)); have ⟨bx_w4_0, bx_w4_1, bx_w4_2, bx_w4_3⟩ := cell4 hb_w4 sz_w3 bx_w3_0 bx_w3_1 bx_w3_2 bx_w3_3; have sz_w4 := Nat.lt_of_lt_of_le sz_w3 hb_w4.size; have ⟨k_w4_y0, k_w4_y1, k_w4_y2, k_w4_y3⟩ := cell4 HB4.out hbl cy_0 cy_1 cy_2 cy_3; have ⟨k_w4_t0, k_w4_t1, k_w4_t2, k_w4_t3⟩ := cell4 HB4.out hbl ct_0 ct_1 ct_2 ct_3; have ⟨k_w4_u0, k_w4_u1, k_w4_u2, k_w4_u3⟩ := cell4 HB4.out hbl cu_0 cu_1 cu_2 cu_3; have ⟨k_w4_s0, k_w4_s1, k_w4_s2, k_w4_s3⟩ := cell4 HB4.out hbl cs_0 cs_1 cs_2 cs_3))
 all_goals exact zz12) : P := h
theorem zz164 {P : Prop} (h : P := by
 intro us w B hB0 hr
 have FD := fd_spec _ hw
 obtain ⟨A3, c3, rfl, r3⟩ := hr.node
 rw [FNode.wt_eq] at hw
 have hz : z2.size ≤ 9223372036854775807 := qaa
 have hl : z3.length ≤ 9000000000 := qaa
 have FDC := fdC FD hn ht hB0 r3
 clear FD
 have hpos3 := r3
 obtain ⟨m, hm⟩ : ∃ m, z3.length = m := ⟨_, rfl⟩
 try rw [hm] at hl r3 FDC ⊢
 have HR := hid r3
 have HB := Hf w (.slice A3 m c3)
 clear hr r3 hpos3
 unfold EaS at hA
 rw [hm] at hA
 have HA := hid hA
 clear hA
 clear hm hw
 by_cases e1 : m = 2
 ·subst e1
  go_enter Tryz.func88, Tryz.ntmps88
  exact zz3
 ·
  go_enter Tryz.func88, Tryz.ntmps88
  exact zz0) : P := h
theorem zz165 {P : Prop} (h : P := by
 intro us w B hB0 hr
 have FD := fd_spec _ hw
 obtain ⟨A3, c3, rfl, r3⟩ := hr.node
 rw [FNode.wt_eq] at hw
 have hz : z2.size ≤ 9223372036854775807 := qaa
 have hl : z3.length ≤ 9000000000 := qaa
 have FDC := fdC FD hn ht hB0 r3
 clear FD
 have hpos3 := r3
 obtain ⟨m, hm⟩ : ∃ m, z3.length = m := ⟨_, rfl⟩
 try rw [hm] at hl r3 FDC ⊢
 have HR := hid r3
 have HB := Hf w (.slice A3 m c3)
 clear hr r3 hpos3
 clear hm hw
 by_cases e1 : m = 0
 ·subst e1
  go_enter Tryz.func54, Tryz.ntmps54
  exact zz0
 ·
  go_enter Tryz.func54, Tryz.ntmps54
  exact zz0) : P := h
theorem zz166 {P : Prop} (h : P := by
 go_wp2_with (first | (go_at_call 53; refine FDC.out.mono ?_; rintro e w3 ⟨rfl, hb3⟩; have HB3 := hid (HB.out.trans (hb3.mono HB.out.size)); have ⟨bx_w3_0, bx_w3_1, bx_w3_2, bx_w3_3⟩ := box4 hb3; have sz_w3 := szA hb3; have ⟨_, _, _, _⟩ := cell4 HB3.out hbl cy_0 cy_1 cy_2 cy_3) | (go_at_call 88; refine (HV.out [.int .i64 y0, .int .i64 y1, .string y2, .slice Dy y3.length dy] _ w.heap.size HB3.out.size (ndV ((Qy.out.up hB0).below HB3.out nr))).mono ?_; rintro e w4 ⟨rfl, hb_w4⟩; have HB4 := hid (HB3.out.trans (hb_w4.mono HB3.out.size))))
 all_goals exact zz12) : P := h
theorem zz167 {P : Prop} (h : P := by
 intro us w B hmx hB0 hr
 obtain ⟨A3, c3, rfl, r3⟩ := hr.node
 rw [FNode.wt_eq] at hw
 have hz : z2.size ≤ 9223372036854775807 := qaa
 have hl : z3.length ≤ 9223372036854775807 := qaa
 unfold AlI at hA
 obtain ⟨m, hm⟩ : ∃ m, z3.length = m := ⟨_, rfl⟩
 try rw [hm] at EX
 rw [hm] at hl r3 hA ⊢
 have HB := Hf w (.slice A3 m c3)
 have CALL := hid (hA _ _ w.heap.size (hmx.below HB.out) HB.out.size ((r3.up hB0).below HB.out nr))
 clear hm hr r3 hw hA
 by_cases e2 : z1 = 0
 ·subst e2
  by_cases e1 : m = 2
  ·subst e1
   go_enter Tryz.func106, Tryz.ntmps106
   exact zz10
  ·
   go_enter Tryz.func106, Tryz.ntmps106
   exact zz10
 ·
  go_enter Tryz.func106, Tryz.ntmps106
  exact zz10) : P := h
theorem zz168 {P : Prop} (h : P := by
 intro us w B hB0 hr
 have FD := fd_spec _ hw
 obtain ⟨A3, c3, rfl, r3⟩ := hr.node
 rw [FNode.wt_eq] at hw
 have hz : z2.size ≤ 9223372036854775807 := qaa
 have hl : z3.length ≤ 9000000000 := qaa
 have FDC := fdC FD hn ht hB0 r3
 clear FD
 have hpos3 := r3
 obtain ⟨m, hm⟩ : ∃ m, z3.length = m := ⟨_, rfl⟩
 try rw [hm] at hl r3 FDC ⊢
 have HR := hid r3
 have HB := Hf w (.slice A3 m c3)
 clear hr r3 hpos3
 clear hm hw
 by_cases e1 : m = 0
 ·subst e1
  go_enter Tryz.func88, Tryz.ntmps88
  exact zz0
 ·
  go_enter Tryz.func88, Tryz.ntmps88
  exact zz0) : P := h
theorem zz169 {P : Prop} (h : P := by
 intro us w B hmx hB0 hr
 obtain ⟨A3, c3, rfl, r3⟩ := hr.node
 rw [FNode.wt_eq] at hw
 have hz : z2.size ≤ 9223372036854775807 := qaa
 have hl : z3.length ≤ 9223372036854775807 := qaa
 unfold AlI at hA
 obtain ⟨m, hm⟩ : ∃ m, z3.length = m := ⟨_, rfl⟩
 try rw [hm] at EX
 rw [hm] at hl r3 hA ⊢
 have HB := Hf w (.slice A3 m c3)
 have CALL := hid (hA _ _ w.heap.size (hmx.below HB.out) HB.out.size ((r3.up hB0).below HB.out nr))
 clear hr
 have HR := hid r3
 clear r3
 by_cases e2 : z1 = 0
 ·subst e2
  by_cases e1 : m = 2
  ·subst e1
   obtain ⟨⟨y0, y1, y2, y3⟩, yb, rfl⟩ := two_of hm
   have hy : (FNode.mk y0 y1 y2 y3).wt ≤ 9000000000 := by have := FNode.wts_at [FNode.mk y0 y1 y2 y3, yb] _ (List.mem_cons_self ..); omega
   obtain ⟨bcy, offcy, Ey, hblcy, hcc⟩ := RdC.at_ (l := [FNode.mk y0 y1 y2 y3, yb]) FNode.len HR.out (i := 0) (x := FNode.mk y0 y1 y2 y3) rfl
   obtain ⟨Dy, dy, c_0, c_1, c_2, c_3, q3⟩ := opN (Below.refl w.heap.size w) qaa hcc (offcy) (offcy + 1) (offcy + 2) (offcy + 3) qaa
   have Qy := hid q3
   clear hcc q3
   subst Ey
   have hbl : bcy < w.heap.size := Nat.lt_of_lt_of_le hblcy hB0
   cases hv : [FNode.mk y0 y1 y2 y3, yb].all exF with
   | false =>
    rw [hv] at CALL EX
    clear hm hw hy hv
    go_enter Tryz.func106, Tryz.ntmps106
    exact zz10
   | true =>
    exact zz34
  ·clear hm hw hA
   go_enter Tryz.func106, Tryz.ntmps106
   go_wp2_with (fail)
   all_goals exact zz22
 ·clear hm hw hA
  go_enter Tryz.func106, Tryz.ntmps106
  go_wp2_with (fail)
  all_goals exact zz22) : P := h
theorem zz170 {P : Prop} (h : P := by
 go_wp2_with (first | (go_at_call 104; refine zkp (good_impl _ _ hz) ?_) | (go_at_call 110; refine CALL.out.mono ?_; rintro e w' ⟨rfl, hb3⟩))
 all_goals exact zz22) : P := h
theorem zz171 {P : Prop} (h : P := by
 go_enter Tryz.func54, Tryz.ntmps54
 go_wp2_with (first | (go_at_call 53; refine FDC.out.mono ?_; rintro e w3 ⟨rfl, hb3⟩; have HB3 := hid (HB.out.trans (hb3.mono HB.out.size)); have ⟨bx_w3_0, bx_w3_1, bx_w3_2, bx_w3_3⟩ := box4 hb3; have sz_w3 := szA hb3; have ⟨k_w3_y0, k_w3_y1, k_w3_y2, k_w3_y3⟩ := cell4 HB3.out hbl cy_0 cy_1 cy_2 cy_3; have ⟨k_w3_t0, k_w3_t1, k_w3_t2, k_w3_t3⟩ := cell4 HB3.out hbl ct_0 ct_1 ct_2 ct_3; have ⟨k_w3_s0, k_w3_s1, k_w3_s2, k_w3_s3⟩ := cell4 HB3.out hbl cs_0 cs_1 cs_2 cs_3) | (go_at_call 51; refine zkp (l1In_any _ _ _ _) ?_) | (go_at_call 89; refine (Ca.out _ _ w.heap.size HB3.out.size ((RT.out.up hB0).below HB3.out nr)).mono ?_; rintro e w4 ⟨rfl, hb_w4⟩; have HB4 := hid (HB3.out.trans (hb_w4.mono HB3.out.size)); have ⟨bx_w4_0, bx_w4_1, bx_w4_2, bx_w4_3⟩ := cell4 hb_w4 sz_w3 bx_w3_0 bx_w3_1 bx_w3_2 bx_w3_3; have sz_w4 := Nat.lt_of_lt_of_le sz_w3 hb_w4.size; have ⟨k_w4_y0, k_w4_y1, k_w4_y2, k_w4_y3⟩ := cell4 HB4.out hbl cy_0 cy_1 cy_2 cy_3; have ⟨k_w4_t0, k_w4_t1, k_w4_t2, k_w4_t3⟩ := cell4 HB4.out hbl ct_0 ct_1 ct_2 ct_3; have ⟨k_w4_s0, k_w4_s1, k_w4_s2, k_w4_s3⟩ := cell4 HB4.out hbl cs_0 cs_1 cs_2 cs_3))
 all_goals exact zz12) : P := h
theorem zz172 {P : Prop} (h : P := by
 go_enter Tryz.func54, Tryz.ntmps54
 go_wp2_with (first | (go_at_call 53; refine FDC.out.mono ?_; rintro e w3 ⟨rfl, hb3⟩; have HB3 := hid (HB.out.trans (hb3.mono HB.out.size)); have ⟨bx_w3_0, bx_w3_1, bx_w3_2, bx_w3_3⟩ := box4 hb3; have sz_w3 := szA hb3) | (go_at_call 51; refine (l1In_any _ _ _ _).mono ?_; rw [HIN.out]; rintro e w' ⟨rfl, rfl⟩))
 all_goals exact zz12) : P := h
theorem zz173 {P : Prop} (h : P := by
 intro us w B hB0 hr
 have FD := fd_spec _ hw
 obtain ⟨A3, c3, rfl, r3⟩ := hr.node
 rw [FNode.wt_eq] at hw
 have hz : z2.size ≤ 9223372036854775807 := qaa
 have hl : z3.length ≤ 9000000000 := qaa
 have FDC := fdC FD hn ht hB0 r3
 clear FD
 have hpos3 := r3
 obtain ⟨m, hm⟩ : ∃ m, z3.length = m := ⟨_, rfl⟩
 try rw [hm] at hl r3 FDC ⊢
 have HR := hid r3
 have HB := Hf w (.slice A3 m c3)
 clear hr r3 hpos3
 unfold EaS at hA
 rw [hm] at hA
 have HA := hid hA
 clear hA
 clear hm hw
 go_enter Tryz.func88, Tryz.ntmps88
 exact zz3) : P := h
theorem zz174 {P : Prop} (h : P := by
 intro us w B hB0 hr
 have FD := fd_spec _ hw
 obtain ⟨A3, c3, rfl, r3⟩ := hr.node
 rw [FNode.wt_eq] at hw
 have hz : z2.size ≤ 9223372036854775807 := qaa
 have hl : z3.length ≤ 9000000000 := qaa
 have FDC := fdC FD hn ht hB0 r3
 clear FD
 have hpos3 := r3
 obtain ⟨m, hm⟩ : ∃ m, z3.length = m := ⟨_, rfl⟩
 try rw [hm] at hl r3 FDC ⊢
 have HR := hid r3
 have HB := hbA w z0 z1 z2 (.slice A3 m c3)
 clear hr r3 hpos3
 clear hm hw
 go_enter Tryz.func88, Tryz.ntmps88
 exact zz0) : P := h
theorem zz175 {P : Prop} (h : P := by
 intro us w B hB0 hr
 have FD := fd_spec _ hw
 obtain ⟨A3, c3, rfl, r3⟩ := hr.node
 rw [FNode.wt_eq] at hw
 have hz : z2.size ≤ 9223372036854775807 := qaa
 have hl : z3.length ≤ 9000000000 := qaa
 have FDC := fdC FD hn ht hB0 r3
 clear FD
 have hpos3 := r3
 obtain ⟨m, hm⟩ : ∃ m, z3.length = m := ⟨_, rfl⟩
 try rw [hm] at hl r3 FDC ⊢
 have HR := hid r3
 have HB := hbA w z0 z1 z2 (.slice A3 m c3)
 clear hr r3 hpos3
 clear hm hw
 go_enter Tryz.func54, Tryz.ntmps54
 exact zz0) : P := h
theorem zz176 {P : Prop} (h : P := by
 go_wp2_with (fail)
 all_goals exact zz22) : P := h
theorem zz177 {P : Prop} (h : P := by
 intro us w B hB0 hr
 have FD := fd_spec _ hw
 obtain ⟨A3, c3, rfl, r3⟩ := hr.node
 rw [FNode.wt_eq] at hw
 have hz : z2.size ≤ 9223372036854775807 := qaa
 have hl : z3.length ≤ 9000000000 := qaa
 have FDC := fdC FD hn ht hB0 r3
 clear FD
 have hpos3 := r3
 obtain ⟨m, hm⟩ : ∃ m, z3.length = m := ⟨_, rfl⟩
 try rw [hm] at hl r3 FDC ⊢
 have HR := hid r3
 have HB := Hf w (.slice A3 m c3)
 clear hr r3 hpos3
 unfold EaS at hA
 rw [hm] at hA
 have HA := hid hA
 clear hA
 clear hm hw
 by_cases e1 : 1 ≤ m
 ·rw [show decide (1 ≤ m) = true from decide_eq_true e1]
  go_enter Tryz.func88, Tryz.ntmps88
  exact zz3
 ·rw [show decide (1 ≤ m) = false from decide_eq_false e1]
  go_enter Tryz.func88, Tryz.ntmps88
  exact zz0) : P := h
theorem zz178 {P : Prop} (h : P := by
 intro us w B hmx hB0 hr
 obtain ⟨A3, c3, rfl, r3⟩ := hr.node
 rw [FNode.wt_eq] at hw
 have hz : z2.size ≤ 9223372036854775807 := qaa
 have hl : z3.length ≤ 9223372036854775807 := qaa
 obtain ⟨m, hm⟩ : ∃ m, z3.length = m := ⟨_, rfl⟩
 try rw [hm] at EX
 rw [hm] at hl r3  ⊢
 have HB := Hf w (.slice A3 m c3)
 clear hm hr r3 hw
 by_cases e1 : m = 0
 ·subst e1
  go_enter Tryz.func106, Tryz.ntmps106
  go_wp2_with (first | (go_at_call 67; refine zkp (inRange_any _ _ _ _) ?_))
  all_goals exact zz22
 ·
  go_enter Tryz.func106, Tryz.ntmps106
  go_wp2_with (first | (go_at_call 67; refine zkp (inRange_any _ _ _ _) ?_))
  all_goals exact zz22) : P := h
theorem zz179 {P : Prop} (h : P := by
 ·
  go_enter Tryz.func106, Tryz.ntmps106
  exact zz10) : P := h
theorem zz180 {P : Prop} (h : P := by
 have hb2 := hb.alloc hbs (.cells #[.int .i64 53, .int .i64 y1, .string y2, .slice D m d] 44)
 exact zz20) : P := h
theorem zz181 {P : Prop} (h : P := by
 intro us w B hB0 hr
 obtain ⟨A3, c3, rfl, r3⟩ := hr.node
 rw [FNode.wt_eq] at hw
 have hz : z2.size ≤ 9223372036854775807 := qaa
 have hz9 : z2.size ≤ 9000000000 := qaa
 simp only [FNode.kd, FNode.nu, FNode.tx]
 rw [EN.out, ET.out]
 have HB := Hf w (.slice A3 z3.length c3)
 clear hr r3 hw EN ET
 go_enter Tryz.func53, Tryz.ntmps53
 go_wp2_with (first | (go_at_call 51; refine zkp (l1In_any _ _ _ _) ?_) | (go_at_call 85; refine (GoS _ _ hz rfl _).mono ?_; rintro e w3 ⟨rfl, hb3⟩))
 all_goals exact zz41) : P := h
theorem zz182 {P : Prop} (h : P := by
 by_cases hq : (z0.toList == s.toList) = true
 ·exact zz118
 ·have hq' : (z0.toList == s.toList) = false := by simpa using hq
  have HQ := hid hq'
  rw [hq']
  clear hq hq'
  rintro e w2 ⟨rfl, hb2⟩
  go_wp2_with fail
  go_roundw
  case rel =>
   refine ⟨k + 1, by omega, by go_num, fun j y hj hjy => ?_, hb.trans (hb2.mono hbs)⟩
   exact zz39
  case measure => simp [intOf]; omega) : P := h
theorem zz183 {P : Prop} (h : P := by
 rw [hv] at CALL EX
 go_enter Tryz.func70, Tryz.ntmps70
 go_wp2_with (first | (go_at_call 67; refine zkp (inRange_any _ _ _ _) ?_) | (go_at_call 106; refine CALL.out.mono ?_; rintro e w' ⟨rfl, hb3⟩))
 all_goals exact zz22) : P := h
theorem zz184 {P : Prop} (h : P := by
 go_enter Tryz.func106, Tryz.ntmps106
 exact zz10) : P := h
theorem zz185 {P : Prop} (h : P := by
 intro w_ hSw
 (try dsimp only at hSw)
 have y := hSw.2.1.cell 2
 exact zz24) : P := h
theorem zz186 {P : Prop} (h : P := by
 by_cases hq : (z0.toList == s.toList) = true
 ·exact zz150
 ·have hq' : (z0.toList == s.toList) = false := by simpa using hq
  have HQ := hid hq'
  clear hq
  go_wp2_with fail
  go_roundw
  case rel =>
   refine ⟨k + 1, by omega, by go_num, fun j y hj hjy => ?_, hb.alloc hb.size _⟩
   exact zz39
  case measure => simp [intOf]; omega) : P := h
theorem zz187 {P : Prop} (h : P := by
 by_cases hq : (z0.toList == s.toList) = true
 ·exact zz158
 ·have hq' : (z0.toList == s.toList) = false := by simpa using hq
  have HQ := hid hq'
  clear hq
  go_wp2_with fail
  go_roundw
  case rel =>
   refine ⟨k + 1, by omega, by go_num, fun j y hj hjy => ?_, hb⟩
   exact zz39
  case measure => simp [intOf]; omega) : P := h
theorem zz188 {P : Prop} (h : P := by
 go_enter Tryz.func70, Tryz.ntmps70
 go_wp2_with (first | (go_at_call 67; refine (inRange_any _ _ _ _).mono ?_; rw [HIN.out]; rintro e w' ⟨rfl, rfl⟩))
 all_goals exact zz22) : P := h
theorem zz189 {P : Prop} (h : P := by
 go_wp2_with (first | (go_at_call 104; refine zkp (good_impl _ _ hz) ?_))
 all_goals exact zz22) : P := h
theorem zz190 {P : Prop} (h : P := by
 have hb2 := hb.alloc hbs (.cells #[.int .i64 53, .int .i64 0, .string y2, .slice D m d] 44)
 exact zz20) : P := h
theorem zz191 {P : Prop} (h : P := by
 rw [hv] at CALL
 go_wp2_with (first | (go_at_call 104; refine zkp (GoV _ _ hzy hgy _) ?_) | (go_at_call 67; refine (inRange_any _ _ _ _).mono ?_; rw [HIN.out]; rintro e w' ⟨rfl, rfl⟩) | (go_at_call 105; refine CALL.out.mono ?_; rintro e w2 ⟨rfl, hb3⟩))
 exact zz32) : P := h
theorem zz192 {P : Prop} (h : P := by
 intro w_ hSw
 (try dsimp only at hSw)
 have y := (hSw.cell (p := ⟨w.heap.size, 0, none⟩) hfl).trans kf
 exact zz24) : P := h
theorem zz193 {P : Prop} (h : P := by
 intro w_ hSw
 (try dsimp only at hSw)
 obtain ⟨y0_, y1_, y2_, y3_⟩ := QC.out w_ hSw.1
 exact zz24) : P := h
theorem zz194 {P : Prop} (h : P := by
 obtain ⟨x0, x1, x2, ⟨x3, x4, x5, x6, x7⟩⟩ := x
 have r0 : wo.cell? ⟨g, k * 8, none⟩ = some (.string x0) := Ro.cell FField.vlen HRo.out hx (j := 0) rfl
 have hno2 : (x0.toList == f0.toList) = false := hno
 have hlt2 : (k : Int) < (fs.length : Int) := qaa
 exact zz52) : P := h
theorem zz195 {P : Prop} (h : P := by
 obtain ⟨x0, x1, x2, x3, x4⟩ := x
 have r0 : wo.cell? ⟨g, k * 5, none⟩ = some (.string x0) := Ro.cell FMethod.vlen HRo.out hx (j := 0) rfl
 have hno2 : (x0.toList == f0.toList) = false := hno
 have hlt2 : (k : Int) < (ms.length : Int) := qaa
 exact zz52) : P := h
theorem zz196 {P : Prop} (h : P := by
 clear hK K
 try simp only [aS]
 (refine rgt rfl rfl qz qad ?_; try simp only [aS])
 iterate 4 (refine rgS rfl qab rfl (fun _ _ _ h => h) qar qad ?_; try simp only [aS])
 iterate 3 (refine rgt rfl rfl qz qad ?_; try simp only [aS])
 exact zz68) : P := h
theorem zz197 {P : Prop} (h : P := by
 go_wp2_with (first | (go_at_call 51; refine (l1In_any _ _ _ _).mono ?_; rw [HIN.out]; rintro e w' ⟨rfl, rfl⟩))
 exact zz82) : P := h
theorem zz198 {P : Prop} (h : P := by
 intro w_ hSw
 (try dsimp only at hSw)
 have y := hSw.2.1.cell 1
 exact zz24) : P := h
theorem zz199 {P : Prop} (h : P := by
 intro w_ hSw
 (try dsimp only at hSw)
 have y := hSw.2.1.cell 3
 exact zz24) : P := h
theorem zz200 {P : Prop} (h : P := by
 intro w_ hSw
 (try dsimp only at hSw)
 have y0 := hSw.2.cell 0; have y1 := hSw.2.cell 1; have y2 := hSw.2.cell 2; have y3 := hSw.2.cell 3; have y4 := hSw.2.cell 4; have y5 := hSw.2.cell 5; have y6 := hSw.2.cell 6; have y7 := hSw.2.cell 7
 exact zz24) : P := h
theorem zz201 {P : Prop} (h : P := by
 go_wp2_with (first | (go_at_call 107; refine zkp (containsP _ _ _ hz4 (hmx.below HB.out)) ?_))
 all_goals exact zz22) : P := h
theorem zz202 {P : Prop} (h : P := by
 have h := hr
 exact zz23) : P := h
theorem zz203 {P : Prop} (h : P := by
 clear hm Q3' HA
 exact zz20) : P := h
theorem zz204 {P : Prop} (h : P := by
 intro w_ hSw
 (try dsimp only at hSw)
 obtain ⟨u_, hu_⟩ := hSw.2.2; have y := hu_.cell 0
 exact zz24) : P := h
theorem zz205 {P : Prop} (h : P := by
 go_enter Tryz.func104, Tryz.ntmps104
 go_wp2_with (first | (go_at_call 132; refine zkp (name_impl _ _ qaa) ?_) | (go_at_call 133; refine zkp (res_impl _ _) ?_))
 exact zz90) : P := h
theorem zz206 {P : Prop} (h : P := by
 have hb2 := hb.alloc hbs (.cells #[.int .i64 y0, .int .i64 y1, .string y2, .slice D y3.length d] 44)
 clear HA
 exact zz20) : P := h
theorem zz207 {P : Prop} (h : P := by
 go_wp2_with (first | (go_at_call 67; refine zkp (inRange_any _ _ _ _) ?_) | (go_at_call 110; refine CALL.out.mono ?_; rintro e w' ⟨rfl, hb3⟩))
 all_goals exact zz22) : P := h
theorem zz208 {P : Prop} (h : P := by
 intro w_ hSw
 (try dsimp only at hSw)
 have y := hSw.1.cell 3
 exact zz24) : P := h
theorem zz209 {P : Prop} (h : P := by
 intro w_ hSw
 (try dsimp only at hSw)
 have y0 := hSw.2.cell 0; have y1 := hSw.2.cell 1; have y2 := hSw.2.cell 2; have y3 := hSw.2.cell 3; have y4 := hSw.2.cell 4
 exact zz24) : P := h
theorem zz210 {P : Prop} (h : P := by
 go_wp2_with fail
 exact zz82) : P := h
theorem zz211 {P : Prop} (h : P := by
 clear hK K
 try simp only [aS]
 iterate 8 (refine rgt rfl rfl qz qad ?_; try simp only [aS])
 exact zz68) : P := h
theorem zz212 {P : Prop} (h : P := by
 intro us w B hB0 hr
 have FD := fd_spec _ hw
 obtain ⟨A3, c3, rfl, r3⟩ := hr.node
 rw [FNode.wt_eq] at hw
 have hz : z2.size ≤ 9223372036854775807 := qaa
 have hl : z3.length ≤ 9000000000 := qaa
 have FDC := fdC FD hn ht hB0 r3
 clear FD
 have hpos3 := r3
 obtain ⟨m, hm⟩ : ∃ m, z3.length = m := ⟨_, rfl⟩
 try rw [hm] at hl r3 FDC ⊢
 have HR := hid r3
 have HB := Hf w (.slice A3 m c3)
 clear hr r3 hpos3
 by_cases e1 : m = 1
 ·subst e1
  obtain ⟨⟨y0, y1, y2, y3⟩, rfl⟩ := List.length_eq_one_iff.mp hm
  have HV := hid (hE ⟨y0, y1, y2, y3⟩ (List.mem_singleton.mpr rfl))
  obtain ⟨bcy, offcy, Ey, hblcy, hcc⟩ := RdC.at_ (l := [FNode.mk y0 y1 y2 y3]) FNode.len HR.out (i := 0) (x := FNode.mk y0 y1 y2 y3) rfl
  obtain ⟨Dy, dy, cy_0, cy_1, cy_2, cy_3, q3⟩ := opN (Below.refl w.heap.size w) qaa hcc (offcy) (offcy + 1) (offcy + 2) (offcy + 3) qaa
  have Qy := hid q3
  clear hcc q3
  have hbl : bcy < w.heap.size := Nat.lt_of_lt_of_le hblcy hB0
  subst Ey
  clear hm hw hE
  rw [show [FNode.mk y0 y1 y2 y3].all exF = exF ⟨y0, y1, y2, y3⟩ from by simp]
  unfold ExS at HV
  generalize exF ⟨y0, y1, y2, y3⟩ = b at *
  go_enter Tryz.func88, Tryz.ntmps88
  exact zz166
 ·clear hm hw hE
  go_enter Tryz.func88, Tryz.ntmps88
  exact zz0) : P := h
theorem zz213 {P : Prop} (h : P := by
 intro us w B hmx hB0 hr
 obtain ⟨A3, c3, rfl, r3⟩ := hr.node
 rw [FNode.wt_eq] at hw
 have hz : z2.size ≤ 9223372036854775807 := qaa
 have hl : z3.length ≤ 9223372036854775807 := qaa
 obtain ⟨m, hm⟩ : ∃ m, z3.length = m := ⟨_, rfl⟩
 try rw [hm] at EX
 rw [hm] at hl r3  ⊢
 have HB := Hf w (.slice A3 m c3)
 clear hm hr r3 hw
 by_cases e2 : z1 = 0
 ·subst e2
  by_cases e1 : m = 0
  ·subst e1
   go_enter Tryz.func70, Tryz.ntmps70
   exact zz176
  ·
   go_enter Tryz.func70, Tryz.ntmps70
   exact zz176
 ·
  go_enter Tryz.func70, Tryz.ntmps70
  exact zz176) : P := h
theorem zz214 {P : Prop} (h : P := by
 have CALL := hid (hA _ _ w.heap.size (hmx.below HB.out) HB.out.size ((r3.up hB0).below HB.out nr))
 clear hm hr r3 hw hA
 by_cases e1 : z1 = 0
 ·subst e1
  go_enter Tryz.func106, Tryz.ntmps106
  exact zz170
 ·
  go_enter Tryz.func106, Tryz.ntmps106
  exact zz170) : P := h
theorem zz215 {P : Prop} (h : P := by
 go_enter Tryz.func70, Tryz.ntmps70
 exact zz176) : P := h
theorem zz216 {P : Prop} (h : P := by
 have hb2 := hb.alloc hbs (.cells #[.int .i64 54, .int .i64 1, .string y2, .slice D m d] 44)
 exact zz203) : P := h
theorem zz217 {P : Prop} (h : P := by
 have hb2 := hb.alloc hbs (.cells #[.int .i64 54, .int .i64 y1, .string y2, .slice D m d] 44)
 exact zz203) : P := h
theorem zz218 {P : Prop} (h : P := by
 have hb2 := hb.alloc hbs (.cells #[.int .i64 54, .int .i64 0, .string y2, .slice D m d] 44)
 exact zz203) : P := h
theorem zz219 {P : Prop} (h : P := by
 cases hv : exF ⟨y0, y1, y2, y3⟩ with
 | false =>
  exact zz183
 | true =>
  exact zz43) : P := h
end Go.Proofs.YtkkjnfappndmpaaGreatDoor
