/-
 Parts of the proof: IsU6, IsU7, IsU8. Conditions: none.
-/
import Derived.Test.YtkkjnfappndmpaaGreatDoorQFold
import Derived.Test.YtkkjnfappndmpaaGreatDoorQbj
import Derived.Test.YtkkjnfappndmpaaGreatDoorQbk
import Derived.Test.YtkkjnfappndmpaaGreatDoorQav
import Derived.Test.YtkkjnfappndmpaaGreatDoorQbl
import Derived.Test.YtkkjnfappndmpaaGreatDoorQbm
import Derived.Test.YtkkjnfappndmpaaGreatDoorQap
import Derived.Test.YtkkjnfappndmpaaGreatDoorQaa
import Derived.Test.YtkkjnfappndmpaaGreatDoorQad
import Derived.Test.YtkkjnfappndmpaaGreatDoorQau
import Derived.Deep.CutRange
import Derived.Deep.CutBlock
set_option linter.unusedVariables false
set_option linter.unusedSimpArgs false
namespace Go.Proofs.YtkkjnfappndmpaaGreatDoor
set_option maxHeartbeats 40000000
open Go.ChangeShapes Go.WideShapes Go.ChangeAt Go.RowKit Go.Deep Go.Joins
open Go.ChangeMaps (open_string shut_string)
set_option maxRecDepth 100000
theorem isS_all : ∀ (N : Nat) (x : FNode), szN x ≤ N → x.wt ≤ 1000000000 → ExS x ∧ StS x ∧ BkS x
 | 0, x, h, _ => absurd (szN_pos x) qaa
 | N + 1, ⟨k, z1, z2, z3⟩, h, hw => by
  have ih : ∀ y, szN y ≤ N → y.wt ≤ 1000000000 → ExS y ∧ StS y ∧ BkS y := isS_all N
  have hw9 : (FNode.mk k z1 z2 z3).wt ≤ 9000000000 := qaa
  have hl : z3.length ≤ 1000000000 := by have := (len_wt ⟨k, z1, z2, z3⟩).1; simp only [FNode.kids] at this; omega
  have kw : ∀ y, y ∈ z3 → y.wt ≤ 1000000000 := fun y hy => by have := (kid_wt (x := ⟨k, z1, z2, z3⟩) (y := y) hy).1; omega
  have kE : ∀ y, y ∈ z3 → ExS y ∧ StS y ∧ BkS y := fun y hy => ih y qau (kw y hy)
  have gE : ∀ x, x ∈ z3 → ∀ y, y ∈ x.kids → ExS y ∧ StS y ∧ BkS y := fun x hx y hy => ih y (by have := kid_sz (x := ⟨k, z1, z2, z3⟩) (y := x) hx; have := kid_sz hy; omega) (by have := kw x hx; have := (kid_wt hy).1; omega)
  have hE : ∀ y, y ∈ z3 → ExS y := fun y hy => (kE y hy).1
  have hS : ∀ y, y ∈ z3 → StS y := fun y hy => (kE y hy).2.1
  have hB : ∀ y, y ∈ z3 → BkS y := fun y hy => (kE y hy).2.2
  have hA : EaS z3 := eaS_of z3 hl hE
  have hD : EaS z3.dropLast := eaS_of _ (by rw [List.length_dropLast]; omega) fun y hy => hE y (List.dropLast_subset _ hy)
  have hI : ∀ x, x ∈ z3 → EaS x.kids := fun x hx => eaS_of _ (by have := kw x hx; have := (len_wt x).1; omega) fun y hy => (gE x hx y hy).1
  have hU : UsS true z3 := usS_of true z3 hl (fun x hx => by have := kw x hx; have := len_wt x; omega) hB
  have hK : ∀ x, x ∈ z3 → ∀ y, y ∈ x.kids → ExS y ∧ BkS y := fun x hx y hy => ⟨(gE x hx y hy).1, (gE x hx y hy).2.2⟩
  have hb : BkS ⟨k, z1, z2, z3⟩ := bkS_of k z1 z2 z3 hw9 hS
  refine ⟨?_, ?_, hb⟩
  ·intro us w B hB0 hr
   rw [exF_mk]
   cases hn : fN k z1 with
   | false => exact exS_badf_o k z1 z2 z3 hw9 (fT k z2) hn rfl us w B hB0 hr
   | true =>
    cases ht : fT k z2 with
    | false => exact exS_badt_o k z1 z2 z3 hw9 false hn ht us w B hB0 hr
    | true =>
     rw [show ((true && true) && exK k z3) = exK k z3 from rfl]
     by_cases n1 : k = 1
     ·subst n1
      exact exS_1 z1 z2 z3 hw9 hn ht us w B hB0 hr
     by_cases n2 : k = 2
     ·subst n2
      exact exS_2 z1 z2 z3 hw9 hn ht us w B hB0 hr
     by_cases n3 : k = 3
     ·subst n3
      exact exS_3 z1 z2 z3 hw9 hn ht us w B hB0 hr
     by_cases n4 : k = 4
     ·subst n4
      exact exS_4 z1 z2 z3 hw9 hn ht us w B hB0 hr
     by_cases n5 : k = 5
     ·subst n5
      exact exS_5 z1 z2 z3 hw9 hn ht hI us w B hB0 hr
     by_cases n7 : k = 7
     ·subst n7
      exact exS_7 z1 z2 z3 hw9 hn ht hA us w B hB0 hr
     by_cases n8 : k = 8
     ·subst n8
      exact exS_8 z1 z2 z3 hw9 hn ht hE us w B hB0 hr
     by_cases n9 : k = 9
     ·subst n9
      exact exS_9 z1 z2 z3 hw9 hn ht hE us w B hB0 hr
     by_cases n10 : k = 10
     ·subst n10
      exact exS_10 z1 z2 z3 hw9 hn ht hA us w B hB0 hr
     by_cases n11 : k = 11
     ·subst n11
      exact exS_11 z1 z2 z3 hw9 hn ht hA us w B hB0 hr
     by_cases n12 : k = 12
     ·subst n12
      exact exS_12 z1 z2 z3 hw9 hn ht hA us w B hB0 hr
     by_cases n13 : k = 13
     ·subst n13
      exact exS_13 z1 z2 z3 hw9 hn ht hA us w B hB0 hr
     by_cases n14 : k = 14
     ·subst n14
      exact exS_14 z1 z2 z3 hw9 hn ht hA us w B hB0 hr
     by_cases n15 : k = 15
     ·subst n15
      exact exS_15 z1 z2 z3 hw9 hn ht hA us w B hB0 hr
     by_cases n16 : k = 16
     ·subst n16
      exact exS_16 z1 z2 z3 hw9 hn ht hA us w B hB0 hr
     by_cases n17 : k = 17
     ·subst n17
      exact exS_17 z1 z2 z3 hw9 hn ht hE us w B hB0 hr
     by_cases n18 : k = 18
     ·subst n18
      exact exS_18 z1 z2 z3 hw9 hn ht hA us w B hB0 hr
     by_cases n19 : k = 19
     ·subst n19
      exact exS_19 z1 z2 z3 hw9 hn ht hA us w B hB0 hr
     by_cases n20 : k = 20
     ·subst n20
      exact exS_20 z1 z2 z3 hw9 hn ht hA us w B hB0 hr
     by_cases n21 : k = 21
     ·subst n21
      exact exS_21 z1 z2 z3 hw9 hn ht hA us w B hB0 hr
     by_cases n22 : k = 22
     ·subst n22
      exact exS_22 z1 z2 z3 hw9 hn ht hA us w B hB0 hr
     by_cases n23 : k = 23
     ·subst n23
      exact exS_23 z1 z2 z3 hw9 hn ht hU us w B hB0 hr
     rw [show exK k z3 = false from by unfold exK; simp [n1, n2, n3, n4, n5, n7, n8, n9, n10, n11, n12, n13, n14, n15, n16, n17, n18, n19, n20, n21, n22, n23]]
     exact exS_o k z1 z2 z3 hw9 hn ht n1 n2 n3 n4 n5 n7 n8 n9 n10 n11 n12 n13 n14 n15 n16 n17 n18 n19 n20 n21 n22 n23 us w B hB0 hr
  ·intro us w B hB0 hr
   rw [stF_mk]
   cases hn : fN k z1 with
   | false => exact stS_badf_o k z1 z2 z3 hw9 (fT k z2) hn rfl us w B hB0 hr
   | true =>
    cases ht : fT k z2 with
    | false => exact stS_badt_o k z1 z2 z3 hw9 false hn ht us w B hB0 hr
    | true =>
     rw [show ((true && true) && stK k z3) = stK k z3 from rfl]
     by_cases n31 : k = 31
     ·subst n31
      exact stS_31 z1 z2 z3 hw9 hn ht us w B hB0 hr
     by_cases n32 : k = 32
     ·subst n32
      exact stS_32 z1 z2 z3 hw9 hn ht hE us w B hB0 hr
     by_cases n33 : k = 33
     ·subst n33
      exact stS_33 z1 z2 z3 hw9 hn ht hE us w B hB0 hr
     by_cases n34 : k = 34
     ·subst n34
      exact stS_34 z1 z2 z3 hw9 hn ht hE hB us w B hB0 hr
     by_cases n35 : k = 35
     ·subst n35
      exact stS_35 z1 z2 z3 hw9 hn ht hE hB us w B hB0 hr
     by_cases n36 : k = 36
     ·subst n36
      exact stS_36 z1 z2 z3 hw9 hn ht hD hB us w B hB0 hr
     by_cases n37 : k = 37
     ·subst n37
      exact stS_37 z1 z2 z3 hw9 hn ht us w B hB0 hr
     by_cases n38 : k = 38
     ·subst n38
      exact stS_38 z1 z2 z3 hw9 hn ht us w B hB0 hr
     by_cases n39 : k = 39
     ·subst n39
      exact stS_39 z1 z2 z3 hw9 hn ht hA us w B hB0 hr
     by_cases n40 : k = 40
     ·subst n40
      exact stS_40 z1 z2 z3 hw9 hn ht us w B hB0 hr
     by_cases n41 : k = 41
     ·subst n41
      exact stS_41 z1 z2 z3 hw9 hn ht hE us w B hB0 hr
     by_cases n42 : k = 42
     ·subst n42
      exact stS_42 z1 z2 z3 hw9 hn ht hE us w B hB0 hr
     by_cases n43 : k = 43
     ·subst n43
      exact stS_43 z1 z2 z3 hw9 hn ht hB hK us w B hB0 hr
     by_cases n46 : k = 46
     ·subst n46
      exact stS_46 z1 z2 z3 hw9 hn ht hA us w B hB0 hr
     by_cases n47 : k = 47
     ·subst n47
      exact stS_47 z1 z2 z3 hw9 hn ht us w B hB0 hr
     by_cases n48 : k = 48
     ·subst n48
      exact stS_48 z1 z2 z3 hw9 hn ht hb us w B hB0 hr
     rw [show stK k z3 = false from by unfold stK; simp [n31, n32, n33, n34, n35, n36, n37, n38, n39, n40, n41, n42, n43, n46, n47, n48]]
     exact stS_o k z1 z2 z3 hw9 hn ht n31 n32 n33 n34 n35 n36 n37 n38 n39 n40 n41 n42 n43 n46 n47 n48 us w B hB0 hr
theorem ex_spec (x : FNode) (hw : x.wt ≤ 1000000000) : ExS x := (isS_all _ x nr hw).1
theorem st_spec (x : FNode) (hw : x.wt ≤ 1000000000) : StS x := (isS_all _ x nr hw).2.1
theorem us_spec (use : Bool) (x : FNode) (hw : x.wt ≤ 1000000000) : UsS use x.kids := by
 have hl := (len_wt x).1
 exact usS_of use _ qaa (fun y hy => by have := (kid_wt hy).1; have := len_wt y; omega) fun y hy => (isS_all _ y nr (by have := (kid_wt hy).1; omega)).2.2
open Lib (hid)
def lfv (s : Nat) (l : Int) : Int := if (s : Int) ≤ l then l - s else -1
def LfS (x : FNode) : Prop := ∀ (us : List Value) (w : World) (B : Nat) (left : Int), 0 ≤ left → left ≤ 1000000 → B ≤ w.heap.size → RdVs w B x.c us → Calls Tryz.prog 83 #[.agg us.toArray, .int .i64 left] w fun e w' => e = .returned (.int .i64 (lfv (szN x) left)) ∧ Below w.heap.size w w'
theorem lfS_of (z0 z1 : Int) (z2 : ByteArray) (z3 : List FNode) (hw : (FNode.mk z0 z1 z2 z3).wt ≤ 1000000000) (hE : ∀ x, x ∈ z3 → LfS x) : LfS ⟨z0, z1, z2, z3⟩ := by
 intro us w B left hl0 hl6 hB0 hr
 obtain ⟨A3, c3, rfl, r3⟩ := hr.node
 rw [FNode.wt_eq] at hw
 have hl : z3.length ≤ 9000000000 := qaa
 have HC := hid r3
 have HE := hid hE
 rw [szN]
 have HB := hbA w z0 z1 z2 (.slice A3 z3.length c3)
 clear hr r3 hw hE
 go_enter Tryz.func83, Tryz.ntmps83
 go_wp2_with fail
 go_loopw [5, 1] (fun i s wr => ∃ (k : Nat) (v : Int), k ≤ z3.length ∧ i = .int .i64 k ∧ s = .int .i64 v ∧ Hid (v = lfv (1 + szL (z3.take k)) left) ∧ -1 ≤ v ∧ v ≤ 1000000 ∧ Below w.heap.size w wr ∧ wr.cell? ⟨w.heap.size, 3, none⟩ = some (.slice A3 z3.length c3) ∧ w.heap.size < wr.heap.size) (fun i _ _ => z3.length - (intOf i).toNat)
 case atStart => exact ⟨0, left - 1, Nat.zero_le _, rfl, by first | rfl | go_num, hid (by simp only [List.take_zero, szL, lfv]; split <;> omega), by omega, by omega, HB.out, by rw [World.cell?_alloc_new]; rfl, by simp⟩
 case round =>
  obtain ⟨k, v, hk, rfl, rfl, HV, hv1, hv2, hb, hbox, hlt0⟩ := hrel
  have hbs := hb.size
  by_cases hlt : k < z3.length
  ·by_cases hv0 : 0 ≤ v
   ·skip
    obtain ⟨x, hx⟩ : ∃ x, z3[k]? = some x := ⟨_, List.getElem?_eq_getElem hlt⟩
    obtain ⟨bc, offc, rfl, hblc, hcc⟩ := RdC.at_ FNode.len HC.out hx
    have HX := hid hx
    have HM := hid (List.mem_of_getElem? hx)
    clear hx
    obtain ⟨y0, y1, y2, y3⟩ := x
    obtain ⟨D, d, c_0, c_1, c_2, c_3, q3⟩ := opN hb qaa hcc (offc + k * 4) (offc + k * 4 + 1) (offc + k * 4 + 2) (offc + k * 4 + 3) qaa
    have Q3 := hid q3
    clear hcc q3
    have CALL := hid (HE.out _ HM.out [.int .i64 y0, .int .i64 y1, .string y2, .slice D y3.length d] wr w.heap.size v hv0 hv2 hbs (ndV ((Q3.out.up hB0).below hb nr)))
    have t1 := hid (szL_take z3 k _ HX.out)
    obtain ⟨N, hN⟩ : ∃ N, szN ⟨y0, y1, y2, y3⟩ = N := ⟨_, rfl⟩
    rw [hN] at t1 CALL
    obtain ⟨v2, hv3⟩ : ∃ v2, lfv N v = v2 := ⟨_, rfl⟩
    rw [hv3] at CALL
    have HV3 := hid hv3
    clear hN hv3
    go_wp2_with (go_at_call 83; refine CALL.out.mono ?_; rintro e w2 ⟨rfl, hb3⟩)
    go_roundw
    case rel =>
     have h3 := HV3.out
     have h4 := HV.out
     unfold lfv at h3 h4
     refine ⟨k + 1, v2, by omega, by go_num, rfl, hid ?_, ?_, ?_, hb.trans (hb3.mono hbs), boxk hb3 hlt0 hbox⟩
     ·rw [t1.out]
      unfold lfv
      split at h3 <;> split at h4 <;> split <;> omega
     ·split at h3 <;> omega
     ·split at h3 <;> omega
    case measure => simp [intOf]; omega
   ·have h4 := HV.out
    have h5 := szL_le z3 k
    have h6 : lfv (1 + szL z3) left = v := by
     unfold lfv at h4 ⊢
     split at h4 <;> split <;> omega
    have h6 := hid h6
    have hd : decide ((0 : Int) ≤ v) = false := decide_eq_false hv0
    clear h4 h5 hv1 hv2
    go_wp2_with fail
    all_goals (go_ret; exact ⟨by first | rfl | (rw [h6.out]; rfl), hb⟩)
  ·obtain rfl : k = z3.length := qaa
   clear hlt
   have h4 := HV.out
   rw [List.take_length] at h4
   go_wp2_with fail
   all_goals (go_ret; exact ⟨by first | rfl | (rw [← h4]; rfl), hb⟩)
theorem lfS : ∀ (N : Nat) (x : FNode), szN x ≤ N → x.wt ≤ 1000000000 → LfS x
 | 0, x, h, _ => absurd (szN_pos0 x) qaa
 | N + 1, ⟨k, z1, z2, z3⟩, h, hw => lfS_of k z1 z2 z3 hw fun y hy => lfS N y qau (by
   have h1 := FNode.wts_at z3 y hy
   rw [FNode.wt_eq] at hw
   omega)
def DpS (x : FNode) : Prop := ∀ (us : List Value) (w : World) (B : Nat), B ≤ w.heap.size → RdVs w B x.c us → Calls Tryz.prog 84 #[.agg us.toArray] w fun e w' => e = .returned (.int .i64 (dpN x : Nat)) ∧ Below w.heap.size w w'
theorem dpS_of (z0 z1 : Int) (z2 : ByteArray) (z3 : List FNode) (hw : (FNode.mk z0 z1 z2 z3).wt ≤ 1000000000) (hE : ∀ x, x ∈ z3 → DpS x) : DpS ⟨z0, z1, z2, z3⟩ := by
 intro us w B hB0 hr
 obtain ⟨A3, c3, rfl, r3⟩ := hr.node
 have hsz := szN_wt ⟨z0, z1, z2, z3⟩
 rw [szN] at hsz
 have hdz := dpL_sz z3
 rw [FNode.wt_eq] at hw hsz
 have hl : z3.length ≤ 9223372036854775807 := qaa
 have hS : dpL z3 ≤ 2000000000 := qaa
 have HC := hid r3
 have HE := hid hE
 have HB := hbA w z0 z1 z2 (.slice A3 z3.length c3)
 clear hr r3 hw hE hsz hdz
 go_enter Tryz.func84, Tryz.ntmps84
 go_wp2_with fail
 go_loopw [4, 3] (fun i s wr => ∃ k : Nat, k ≤ z3.length ∧ i = .int .i64 k ∧ s = .int .i64 (dpL (z3.take k) : Nat) ∧ Below w.heap.size w wr ∧ wr.cell? ⟨w.heap.size, 3, none⟩ = some (.slice A3 z3.length c3) ∧ w.heap.size < wr.heap.size) (fun i _ _ => z3.length - (intOf i).toNat)
 case atStart => exact ⟨0, Nat.zero_le _, rfl, by simp [dpL], HB.out, by rw [World.cell?_alloc_new]; rfl, by simp⟩
 case round =>
  obtain ⟨k, hk, rfl, rfl, hb, hbox, hlt0⟩ := hrel
  have hbs := hb.size
  by_cases hlt : k < z3.length
  ·skip
   obtain ⟨x, hx⟩ : ∃ x, z3[k]? = some x := ⟨_, List.getElem?_eq_getElem hlt⟩
   obtain ⟨bc, offc, rfl, hblc, hcc⟩ := RdC.at_ FNode.len HC.out hx
   have HX := hid hx
   have HM := hid (List.mem_of_getElem? hx)
   clear hx
   obtain ⟨y0, y1, y2, y3⟩ := x
   obtain ⟨D, d, c_0, c_1, c_2, c_3, q3⟩ := opN hb qaa hcc (offc + k * 4) (offc + k * 4 + 1) (offc + k * 4 + 2) (offc + k * 4 + 3) qaa
   have Q3 := hid q3
   clear hcc q3
   have HV := hid (HE.out _ HM.out)
   have CALL := hid (HV.out [.int .i64 y0, .int .i64 y1, .string y2, .slice D y3.length d] _ w.heap.size hbs (ndV ((Q3.out.up hB0).below hb nr)))
   have t2 := dpL_le z3 (k + 1)
   have t3 := dpL_take z3 k _ HX.out
   obtain ⟨P, hP⟩ : ∃ P, dpN ⟨y0, y1, y2, y3⟩ = P := ⟨_, rfl⟩
   rw [hP] at t3 CALL
   go_wp2_with (first | (go_at_call 84; refine CALL.out.mono ?_; rintro e w2 ⟨rfl, hb3⟩) | (go_at_call 123; refine zkp (max_s _ _ _) ?_))
   go_roundw
   case rel => exact ⟨k + 1, by omega, by go_num, by rw [t3]; unfold imax; split <;> (congr 1; omega), hb.trans (hb3.mono hbs), boxk hb3 hlt0 hbox⟩
   case measure => simp [intOf]; omega
  ·exact zz144
theorem dpS : ∀ (N : Nat) (x : FNode), szN x ≤ N → x.wt ≤ 1000000000 → DpS x
 | 0, x, h, _ => absurd (szN_pos0 x) qaa
 | N + 1, ⟨k, z1, z2, z3⟩, h, hw => dpS_of k z1 z2 z3 hw fun y hy => dpS N y qau (by
   have h1 := FNode.wts_at z3 y hy
   rw [FNode.wt_eq] at hw
   omega)
theorem smS (x : FNode) (hw : x.wt ≤ 1000000000) : SaB 52 x (smF x) := by
 intro us w B hB0 hr
 have HS := hid (lfS _ x nr hw)
 have HD := hid (dpS _ x nr hw)
 have EX := hid (show smF x = (decide (szN x ≤ 600) && decide (dpN x ≤ 30)) from rfl)
 obtain ⟨N, hN⟩ : ∃ N, szN x = N := ⟨_, rfl⟩
 obtain ⟨P, hP⟩ : ∃ P, dpN x = P := ⟨_, rfl⟩
 rw [hN, hP] at EX
 obtain ⟨z0, z1, z2, z3⟩ := x
 obtain ⟨A3, c3, rfl, r3⟩ := hr.node
 rw [FNode.wt_eq] at hw
 have hz : z2.size ≤ 9223372036854775807 := qaa
 have hl : z3.length ≤ 9223372036854775807 := qaa
 have HR := hid r3
 have HB := hbA w z0 z1 z2 (.slice A3 z3.length c3)
 have CALL := hid (HS.out [.int .i64 z0, .int .i64 z1, .string z2, .slice A3 z3.length c3] _ w.heap.size 600 qae qae HB.out.size (ndV ((HR.out.up hB0).below HB.out nr)))
 rw [hN] at CALL
 unfold DpS at HD
 rw [hP] at HD
 clear hr r3 hw hN hP HS
 have EX2 := hid (show (decide (N ≤ 600) && decide (P ≤ 30)) = smF ⟨z0, z1, z2, z3⟩ from EX.out.symm)
 clear EX
 by_cases hN6 : N ≤ 600
 ·rw [show lfv N 600 = (600 : Int) - N from by unfold lfv; rw [if_pos qaa]] at CALL
  have hN7 : (0 : Int) ≤ 600 - (N : Int) := qaa
  rw [decide_eq_true hN6, Bool.true_and] at EX2
  by_cases hP3 : P ≤ 30
  ·have hP4 : decide ((P : Int) ≤ 30) = true := by simp; omega
   rw [decide_eq_true hP3] at EX2
   exact zz71
  ·have hP4 : decide ((P : Int) ≤ 30) = false := by simp; omega
   rw [decide_eq_false hP3] at EX2
   exact zz71
 ·rw [show lfv N 600 = -1 from by unfold lfv; rw [if_neg qaa]] at CALL
  rw [decide_eq_false hN6, Bool.false_and] at EX2
  go_enter Tryz.func52, Tryz.ntmps52
  go_wp2_with (first | (go_at_call 83; refine CALL.out.mono ?_; rintro e w3 ⟨rfl, hb3⟩; have HB3 := hid (HB.out.trans (hb3.mono HB.out.size)); have ⟨bx_0, bx_1, bx_2, bx_3⟩ := box4 hb3) | (go_at_call 84; refine (HD.out [.int .i64 z0, .int .i64 z1, .string z2, .slice A3 z3.length c3] _ w.heap.size HB3.out.size (ndV ((HR.out.up hB0).below HB3.out nr))).mono ?_; rintro e w4 ⟨rfl, hb4⟩))
  all_goals (go_ret; exact ⟨ret_bool EX2.out, HB3.out⟩)
/-- What the switch says of a member: its stage, and whether it is right there. -/
def cAt (x0 : Int) : Int := if x0 = 52 then 0 else if x0 = 53 then 1 else 2
def cOk (cl : Bool) (k : Nat) (x0 : Int) (ks : List FNode) : Bool :=
 if x0 = 52 then (k == 0 && (cl && ks.length == 0)) else if x0 = 53 then ks.length == 0 else if x0 = 54 then oneF ks else if x0 = 55 then usF false ks else false
theorem clsF_at (cl : Bool) (sg : Nat) (l : List FNode) (k : Nat) (x0 x1 : Int) (x2 : ByteArray) (x3 : List FNode) (h : l[k]? = some ⟨x0, x1, x2, x3⟩) (h0 : k = 0 → sg = 0) (h2 : sg ≤ 2) :
  clsF cl sg (k == 0) (l.drop k) = ((fN x0 x1 && fT x0 x2) && (cOk cl k x0 x3 && (decide ((sg : Int) ≤ cAt x0) && clsF cl (cAt x0).toNat false (l.drop (k + 1))))) := by
 obtain ⟨hk, he⟩ := List.getElem?_eq_some_iff.1 h
 rw [List.drop_eq_getElem_cons hk, he, clsF]
 have hq : x3.isEmpty = (x3.length == 0) := by cases x3 <;> rfl
 simp only [FNode.kd, FNode.nu, FNode.tx, FNode.kids, hq]
 unfold cOk cAt
 by_cases e52 : x0 = 52
 ·subst e52
  simp only [↓reduceIte]
  by_cases hk0 : k = 0
  ·subst hk0
   rw [h0 rfl]
   cases (fN 52 x1 && fT 52 x2) <;> cases cl <;> cases (x3.length == 0) <;> simp
  ·rw [show (k == 0) = false from beq_false_of_ne hk0]
   simp
 by_cases e53 : x0 = 53
 ·subst e53
  simp (decide := true) only [↓reduceIte]
  rw [show decide ((sg : Int) ≤ 1) = decide (sg ≤ 1) from by rw [decide_eq_decide]; omega]
  rfl
 by_cases e54 : x0 = 54
 ·subst e54
  simp (decide := true) only [↓reduceIte]
  rw [show decide ((sg : Int) ≤ 2) = true from decide_eq_true qaa, Bool.true_and]
  match x3 with
  | [] => rfl
  | [_] => rfl
  | _ :: _ :: _ => rfl
 by_cases e55 : x0 = 55
 ·subst e55
  simp (decide := true) only [↓reduceIte]
  rw [show decide ((sg : Int) ≤ 2) = true from decide_eq_true qaa, Bool.true_and]
  rfl
 simp only [e52, e53, e54, e55, ↓reduceIte, Bool.false_and, Bool.and_false]
def CxS (w wr : World) (z0 : Int) (A : Option Addr) (m c : Nat) (x0 : Int) (D : Option Addr) (q d : Nat) (wx : World) : Prop :=
 Below w.heap.size w wx ∧ wx.cell? ⟨w.heap.size, 3, none⟩ = some (.slice A m c) ∧ wx.cell? ⟨w.heap.size, 0, none⟩ = some (.int .i64 z0) ∧ w.heap.size < wx.heap.size ∧ wx.cell? ⟨wr.heap.size, 0, none⟩ = some (.int .i64 x0) ∧ wx.cell? ⟨wr.heap.size, 3, none⟩ = some (.slice D q d) ∧ wr.heap.size < wx.heap.size
theorem CxS.call {w wr wx wy : World} {z0 : Int} {A : Option Addr} {m c : Nat} {x0 : Int} {D : Option Addr} {q d : Nat} (h : CxS w wr z0 A m c x0 D q d wx) (hb : Below wx.heap.size wx wy) : CxS w wr z0 A m c x0 D q d wy := by
 obtain ⟨h1, h2, h2b, h3, h4, h5, h6⟩ := h
 exact ⟨h1.trans (hb.mono h1.size), (hb.cell (p := ⟨w.heap.size, 3, none⟩) h3).trans h2, (hb.cell (p := ⟨w.heap.size, 0, none⟩) h3).trans h2b, Nat.lt_of_lt_of_le h3 hb.size, (hb.cell (p := ⟨wr.heap.size, 0, none⟩) h6).trans h4, (hb.cell (p := ⟨wr.heap.size, 3, none⟩) h6).trans h5, Nat.lt_of_lt_of_le h6 hb.size⟩
theorem class_spec (z0 z1 : Int) (z2 : ByteArray) (z3 : List FNode) (hw : (FNode.mk z0 z1 z2 z3).wt ≤ 1000000000) : SaB 56 (FNode.mk z0 z1 z2 z3) (clsF (z0 == 50) 0 true z3) := by
 intro us w B hB0 hr
 obtain ⟨A3, c3, rfl, r3⟩ := hr.node
 have HW : Hid (∀ x, x ∈ z3 → x.wt ≤ 1000000000) := hid fun x hx => by have := (kid_wt (x := ⟨z0, z1, z2, z3⟩) (y := x) hx).1; omega
 rw [FNode.wt_eq] at hw
 have hl : z3.length ≤ 9000000000 := qaa
 have HC := hid r3
 have HB := hbA w z0 z1 z2 (.slice A3 z3.length c3)
 clear hr r3 hw
 go_enter Tryz.func56, Tryz.ntmps56
 go_wp2_with fail
 go_loopw [4, 3] (fun i s wr => ∃ (k sg : Nat), k ≤ z3.length ∧ i = .int .i64 k ∧ s = .int .i64 sg ∧ Hid (k = 0 → sg = 0) ∧ sg ≤ 2 ∧ Hid (clsF (z0 == 50) sg (k == 0) (z3.drop k) = clsF (z0 == 50) 0 true z3) ∧ Below w.heap.size w wr ∧ wr.cell? ⟨w.heap.size, 3, none⟩ = some (.slice A3 z3.length c3) ∧ wr.cell? ⟨w.heap.size, 0, none⟩ = some (.int .i64 z0) ∧ w.heap.size < wr.heap.size) (fun i _ _ => z3.length - (intOf i).toNat)
 case atStart => exact ⟨0, 0, Nat.zero_le _, rfl, rfl, hid (fun _ => rfl), by omega, hid rfl, HB.out, by rw [World.cell?_alloc_new]; rfl, by rw [World.cell?_alloc_new]; rfl, by simp⟩
 case round =>
  obtain ⟨k, sg, hk, rfl, rfl, H0, hsg, HP0, hb, hbox, hbox0, hlt0⟩ := hrel
  have hbs := hb.size
  by_cases hlt : k < z3.length
  ·skip
   obtain ⟨x, hx⟩ : ∃ x, z3[k]? = some x := ⟨_, List.getElem?_eq_getElem hlt⟩
   obtain ⟨bc, offc, rfl, hblc, hcc⟩ := RdC.at_ FNode.len HC.out hx
   have HX := hid hx
   have HM := hid (List.mem_of_getElem? hx)
   clear hx
   obtain ⟨n0, n1, n2, n3⟩ := x
   obtain ⟨D, d, c_0, c_1, c_2, c_3, q3⟩ := opN hb qaa hcc (offc + k * 4) (offc + k * 4 + 1) (offc + k * 4 + 2) (offc + k * 4 + 3) qaa
   have Q3 := hid q3
   clear hcc q3
   have HYW := hid (HW.out _ HM.out)
   obtain ⟨q, hq⟩ : ∃ q, n3.length = q := ⟨_, rfl⟩
   have hql : q ≤ 9000000000 := by have := (len_wt ⟨n0, n1, n2, n3⟩).1; have := HYW.out; simp only [FNode.kids] at *; omega
   have Q3' := Q3.out
   have HQN := hid hq
   have FDX0 := fd_spec ⟨n0, n1, n2, n3⟩ (by have := HYW.out; omega) [.int .i64 n0, .int .i64 n1, .string n2, .slice D n3.length d] (wr.alloc (.cells #[.int .i64 n0, .int .i64 n1, .string n2, .slice D n3.length d] 44)) w.heap.size (hb.alloc hbs _).size (ndV ((Q3.out.up hB0).below (hb.alloc hbs _) nr))
   simp only [FNode.kd, FNode.nu, FNode.tx] at FDX0
   rw [hq] at c_3 Q3' FDX0
   have FDX := hid FDX0
   have Q4 := hid Q3'
   have HCH : Hid True := hid trivial
   have HP := hid (clsF_at (z0 == 50) sg z3 k n0 n1 n2 n3 HX.out H0.out hsg)
   have kb := (Below.refl wr.heap.size wr).alloc nr (.cells #[.int .i64 n0, .int .i64 n1, .string n2, .slice D q d] 44)
   have X0 : CxS w wr z0 (some ⟨bc, offc, none⟩) z3.length c3 n0 D q d (wr.alloc (.cells #[.int .i64 n0, .int .i64 n1, .string n2, .slice D q d] 44)) := ⟨hb.alloc hbs _, (kb.cell (p := ⟨w.heap.size, 3, none⟩) hlt0).trans hbox, (kb.cell (p := ⟨w.heap.size, 0, none⟩) hlt0).trans hbox0, Nat.lt_of_lt_of_le hlt0 kb.size, by rw [World.cell?_alloc_new]; rfl, by rw [World.cell?_alloc_new]; rfl, by simp⟩
   clear FDX0 hq Q3 Q3' kb
   go_upto_region 9 with (go_at_call 53; refine FDX.out.mono ?_; rintro e w5 ⟨rfl, hb5⟩)
   have X5 := X0.call hb5
   clear X0
   have t3 := X5.2.1; have t0 := X5.2.2.1; have tx0 := X5.2.2.2.2.1; have tx3 := X5.2.2.2.2.2.1
   go_upto_block 2 with fail
   go_cut [8, 9] from 10 to 91 (fun a o wx => a = .int .i64 (cAt n0) ∧ o = .bool (cOk (z0 == 50) k n0 n3) ∧ CxS w wr z0 (some ⟨bc, offc, none⟩) z3.length c3 n0 D q d wx)
   case first =>
    by_cases e52 : n0 = 52
    ·subst e52
     have HAT := hid (show cAt 52 = 0 from rfl)
     by_cases hk0 : k = 0
     ·subst hk0
      by_cases hz0 : z0 = 50
      ·subst hz0
       have HOK := hid (show cOk ((50 : Int) == 50) 0 52 n3 = (q == 0) from by rw [← HQN.out]; rfl)
       exact zz46
      ·have HOK := hid (show cOk (z0 == 50) 0 52 n3 = false from by rw [beq_false_of_ne hz0]; rfl)
       exact zz46
     ·have HOK := hid (show cOk (z0 == 50) k 52 n3 = false from by unfold cOk; rw [show (k == 0) = false from beq_false_of_ne hk0]; rfl)
      exact zz46
    by_cases e53 : n0 = 53
    ·subst e53
     have HAT := hid (show cAt 53 = 1 from rfl)
     have HOK := hid (show cOk (z0 == 50) k 53 n3 = (q == 0) from by rw [← HQN.out]; rfl)
     exact zz46
    by_cases e54 : n0 = 54
    ·subst e54
     have HAT := hid (show cAt 54 = 2 from rfl)
     by_cases hq1 : q = 1
     ·subst hq1
      match n3, HQN, Q4, HCH with
      | [⟨g0, g1, g2, g3⟩], HQN, Q4, HCH =>
       obtain ⟨bcg, offcg, Eg, hblcg, hcc⟩ := RdC.at_ (l := [FNode.mk g0 g1 g2 g3]) FNode.len Q4.out (i := 0) (x := FNode.mk g0 g1 g2 g3) rfl
       obtain ⟨Dg, dg, cg_0, cg_1, cg_2, cg_3, q3⟩ := opN (Below.refl w.heap.size w) qaa hcc (offcg) (offcg + 1) (offcg + 2) (offcg + 3) qaa
       have Qg := hid q3
       clear hcc q3
       have hblg : bcg < w.heap.size := Nat.lt_of_lt_of_le hblcg hB0
       subst Eg
       have Cg := hid (ex_spec ⟨g0, g1, g2, g3⟩ (by have := (kid_wt (x := ⟨54, n1, n2, [⟨g0, g1, g2, g3⟩]⟩) (y := ⟨g0, g1, g2, g3⟩) (by simp [FNode.kids])).1; have := HYW.out; omega))
       have ⟨_, _, _, _⟩ := cell4 X5.1 hblg cg_0 cg_1 cg_2 cg_3
       cases hin : inB g0 1 3 with
       | false =>
        have HIN := hid hin
        have HOK := hid (show cOk (z0 == 50) k 54 [⟨g0, g1, g2, g3⟩] = false from by show (inB g0 1 3 && _) = false; rw [hin]; rfl)
        go_wp2_with ((go_at_call 51; refine (l1In_any _ _ _ _).mono ?_; rw [HIN.out]; rintro e w' ⟨rfl, rfl⟩))
        all_goals (go_meet; exact ⟨by rw [HAT.out], by rw [HOK.out]; first | done | rfl | (rw [beq_0]) | (simp_all [beq_0]; done), X5⟩)
       | true =>
        have HIN := hid hin
        have HOK := hid (show cOk (z0 == 50) k 54 [⟨g0, g1, g2, g3⟩] = exF ⟨g0, g1, g2, g3⟩ from by show (inB g0 1 3 && _) = _; rw [hin]; rfl)
        go_wp2_with (first | (go_at_call 51; refine (l1In_any _ _ _ _).mono ?_; rw [HIN.out]; rintro e w' ⟨rfl, rfl⟩) | (go_at_call 88; refine (Cg.out [.int .i64 g0, .int .i64 g1, .string g2, .slice Dg g3.length dg] _ w.heap.size X5.1.size (ndV ((Qg.out.up hB0).below X5.1 nr))).mono ?_; rintro e w6 ⟨rfl, hb6⟩; have X6 := X5.call hb6))
        all_goals (go_meet; exact ⟨by rw [HAT.out], by rw [HOK.out]; first | done | rfl | (rw [beq_0]) | (simp_all [beq_0]; done), X6⟩)
     ·have HOK := hid (show cOk (z0 == 50) k 54 n3 = false from one_no n3 (by have := HQN.out; omega))
      exact zz46
    by_cases e55 : n0 = 55
    ·subst e55
     have HAT := hid (show cAt 55 = 2 from rfl)
     have HOK := hid (show cOk (z0 == 50) k 55 n3 = usF false n3 from rfl)
     have CU := hid (us_spec false ⟨55, n1, n2, n3⟩ HYW.out)
     unfold UsS at CU
     simp only [FNode.kids] at CU
     rw [HQN.out] at CU
     go_wp2_with (go_at_call 55; refine (CU.out _ _ w.heap.size X5.1.size ((Q4.out.up hB0).below X5.1 nr)).mono ?_; rintro e w6 ⟨rfl, hb6⟩; have X6 := X5.call hb6)
     all_goals (go_meet; exact ⟨by rw [HAT.out], by rw [HOK.out]; first | done | rfl | (rw [beq_0]) | (simp_all [beq_0]; done), X6⟩)
    have HAT := hid (show cAt n0 = 2 from by unfold cAt; rw [if_neg e52, if_neg e53])
    have HOK := hid (show cOk (z0 == 50) k n0 n3 = false from by unfold cOk; rw [if_neg e52, if_neg e53, if_neg e54, if_neg e55])
    exact zz46
   case rest =>
    obtain ⟨rfl, rfl, X9⟩ := hcut
    have v3 := X9.2.1; have v0 := X9.2.2.1; have vx0 := X9.2.2.2.2.1; have vx3 := X9.2.2.2.2.2.1
    generalize fN n0 n1 = fa at *
    generalize fT n0 n2 = fb at *
    generalize hco : cOk (z0 == 50) k n0 n3 = co at *
    generalize hca : cAt n0 = ca at *
    have hca0 : 0 ≤ ca ∧ ca ≤ 2 := by rw [← hca]; unfold cAt; split <;> (try split) <;> omega
    cases fa <;> cases fb <;> cases co
    case true.true.true =>
     by_cases hs : (sg : Int) ≤ ca
     ·have hd : decide (ca < (sg : Int)) = false := decide_eq_false qaa
      have HN := hid (show clsF (z0 == 50) ca.toNat (k + 1 == 0) (z3.drop (k + 1)) = clsF (z0 == 50) 0 true z3 from by rw [← HP0.out, HP.out, decide_eq_true hs]; rfl)
      go_wp2_with fail
      go_roundw
      case rel => exact ⟨k + 1, ca.toNat, by omega, by go_num, by rw [Int.toNat_of_nonneg hca0.1], hid (fun h => absurd h qaa), by omega, HN, X9.1, X9.2.1, X9.2.2.1, X9.2.2.2.1⟩
      case measure => simp [intOf]; omega
     ·have hd : decide (ca < (sg : Int)) = true := decide_eq_true qaa
      have HF := hid (show false = clsF (z0 == 50) 0 true z3 from by rw [← HP0.out, HP.out, decide_eq_false hs]; rfl)
      go_wp2_with fail
      go_ret
      exact ⟨ret_bool HF.out, X9.1⟩
    all_goals
     have HF := hid (show false = clsF (z0 == 50) 0 true z3 from by rw [← HP0.out, HP.out]; rfl)
     go_wp2_with fail
     go_ret
     exact ⟨ret_bool HF.out, X9.1⟩
  ·obtain rfl : k = z3.length := qaa
   clear hlt
   have h := HP0.out
   rw [List.drop_length] at h
   have HG := hid (show true = clsF (z0 == 50) 0 true z3 from by rw [← h, clsF])
   go_wp2_with fail
   go_ret
   exact ⟨ret_bool HG.out, hb⟩
end Go.Proofs.YtkkjnfappndmpaaGreatDoor
