/-
 Parts of the proof: IsS1, IsS2. Conditions: none.
-/
import Derived.Test.YtkkjnfappndmpaaGreatDoorQFold
import Derived.Test.YtkkjnfappndmpaaGreatDoorQag
import Derived.Deep.QuietTactic
import Derived.BigQuiet
import Derived.Test.YtkkjnfappndmpaaGreatDoorQad
import Derived.Test.YtkkjnfappndmpaaGreatDoorQaa
set_option linter.unusedVariables false
set_option linter.unusedSimpArgs false
namespace Go.Proofs.YtkkjnfappndmpaaGreatDoor
set_option maxHeartbeats 40000000
open Lib (hid)
open Go.ChangeShapes Go.WideShapes Go.ChangeAt Go.RowKit Go.Deep Go.Joins
open Go.ChangeMaps (open_string shut_string)
set_option maxRecDepth 100000
def p2 (t : ByteArray) (a b : UInt8) (i : Nat) : Bool := decide (i + 1 < t.size) && (bI t i == (a.toNat : Int) && bI t (i + 1) == (b.toNat : Int))
theorem ext_l (s : ByteArray) (a b : Nat) : (s.extract a b).toList = (s.data.toList.take b).drop a := by
 rw [ByteArray.toList_eq, ByteArray.data_extract, Array.toList_extract]
 simp [List.extract, List.drop_take]
theorem two_eq (t : ByteArray) (a b : UInt8) (i : Nat) (h : i + 1 < t.size) : ((t.extract i (i + 2)).toList == [a, b]) = p2 t a b i := by
 have h0 : i < t.data.toList.length := by rw [len_data]; omega
 have h1 : i + 1 < t.data.toList.length := by rw [len_data]; omega
 have e0 : bI t i = (t.data.toList[i].toNat : Int) := bI_eq t i qaa
 have e1 : bI t (i + 1) = (t.data.toList[i + 1].toNat : Int) := bI_eq t (i + 1) qaa
 have k : ∀ x y : UInt8, (x == y) = ((x.toNat : Int) == (y.toNat : Int)) := fun x y => by
  rw [Bool.eq_iff_iff, beq_iff_eq, beq_iff_eq, ← UInt8.toNat_inj]
  omega
 rw [ext_l, List.drop_take, List.drop_eq_getElem_cons h0, List.drop_eq_getElem_cons h1, show i + 2 - i = 2 from by omega]
 unfold p2
 rw [e0, e1, decide_eq_true h, Bool.true_and, ← k, ← k]
 show (_ == a && (_ == b && true)) = _
 rw [Bool.and_true]
theorem p2_end (t : ByteArray) (a b : UInt8) (i : Nat) (h : ¬ i + 1 < t.size) : p2 t a b i = false := by
 unfold p2
 rw [decide_eq_false h, Bool.false_and]
theorem l14_spec (t : ByteArray) (i : Nat) (w : World) (ht : t.size ≤ 9000000000) (hi : i < t.size) : Calls Tryz.prog 87 #[.string t, .int .i64 i, .string ⟨#[60, 63]⟩] w fun e w' => e = .returned (.bool (p2 t 60 63 i)) ∧ w = w' := by
 by_cases h : i + 1 < t.size
 ·have HE := hid (two_eq t 60 63 i h)
  go_enter Tryz.func87, Tryz.ntmps87
  go_wp2_with fail
  all_goals (go_ret; exact ⟨ret_bool HE.out, rfl⟩)
 ·have HE := hid (p2_end t 60 63 i h)
  go_enter Tryz.func87, Tryz.ntmps87
  go_wp2_with fail
  all_goals (go_ret; exact ⟨ret_bool HE.out.symm, rfl⟩)
theorem ccAt_none {t : ByteArray} (h : ∀ j, j + 1 < t.size → p2 t 58 58 j = false) : ccAt t = none := by
 unfold ccAt
 rw [List.find?_eq_none]
 intro x hx
 rw [List.mem_range] at hx
 have h1 := h x qaa
 unfold p2 at h1
 rw [decide_eq_true qaa, Bool.true_and] at h1
 simpa using h1
theorem ccAt_some {t : ByteArray} {i : Nat} (h1 : p2 t 58 58 i = true) (hi : i + 1 < t.size) (h : ∀ j, j < i → p2 t 58 58 j = false) : ccAt t = some i := by
 unfold ccAt
 rw [List.find?_range_eq_some]
 unfold p2 at h1 h
 rw [decide_eq_true hi, Bool.true_and] at h1
 refine ⟨h1, List.mem_range.mpr qaa, fun j hj => ?_⟩
 have := h j hj
 rw [decide_eq_true qaa, Bool.true_and] at this
 rw [Bool.not_eq_true']
 exact this
def spA (t : ByteArray) : ByteArray := match ccAt t with | some i => t.extract 0 i | none => ByteArray.empty
def spBx (t : ByteArray) : ByteArray := match ccAt t with | some i => t.extract (i + 2) t.size | none => ByteArray.empty
theorem split_spec (t : ByteArray) (w : World) (ht : t.size ≤ 9000000000) : Calls Tryz.prog 86 #[.string t] w fun e w' => e = .returned (.tuple #[.string (spA t), .string (spBx t)]) ∧ Below w.heap.size w w' := by
 go_enter Tryz.func86, Tryz.ntmps86
 go_wp2_with fail
 go_loopw [4] (fun i wr => ∃ k : Nat, k ≤ t.size ∧ i = .int .i64 k ∧ Hid (∀ j, j < k → p2 t 58 58 j = false) ∧ wr = w) (fun i _ => t.size - (intOf i).toNat)
 case atStart => exact ⟨0, Nat.zero_le _, rfl, hid (fun j hj => absurd hj (Nat.not_lt_zero _)), rfl⟩
 case round =>
  obtain ⟨k, hk, rfl, HA, rfl⟩ := hrel
  by_cases hlt : k + 1 < t.size
  ·have HT := hid (two_eq t 58 58 k hlt)
   cases hp : p2 t 58 58 k with
   | false =>
    have HT2 : ((t.extract k (k + 2)).toList == [58, 58]) = false := HT.out.trans hp
    clear HT
    go_wp2_with fail
    go_roundw
    case rel => exact ⟨k + 1, by omega, by go_num, hid (fun j hj => by rcases Nat.lt_succ_iff_lt_or_eq.mp hj with h | h; exact HA.out j h; rw [h]; exact hp), trivial⟩
    case measure => simp [intOf]; omega
   | true =>
    have HT2 : ((t.extract k (k + 2)).toList == [58, 58]) = true := HT.out.trans hp
    have HC := hid (ccAt_some hp hlt HA.out)
    clear HT
    go_wp2_with fail
    go_quiet (fail)
    go_wp2_with fail
    all_goals (go_ret2; refine ⟨?_, below_drewN (Below.refl _ _) _⟩; unfold spA spBx; rw [HC.out]; rfl)
  ·have HC := hid (ccAt_none fun j hj => HA.out j qaa)
   go_wp2_with fail
   all_goals (go_ret2; refine ⟨?_, Below.refl _ _⟩; unfold spA spBx; rw [HC.out]; rfl)
def FdS (x : FNode) : Prop := ∀ (us : List Value) (w : World) (B : Nat), B ≤ w.heap.size → RdVs w B x.c us → Calls Tryz.prog 53 #[.agg us.toArray] w fun e w' => e = .returned (.tuple #[.bool (fN x.kd x.nu), .bool (fT x.kd x.tx)]) ∧ Below w.heap.size w w'
theorem GoS (t : ByteArray) (b : Bool) (h : t.size ≤ 9223372036854775807) (e : goodF t = b) (w : World) : Calls Tryz.prog 85 #[.string t] w fun e w' => e = .returned (.bool b) ∧ Below w.heap.size w w' := by
 have := good_spec t w h
 rw [e] at this
 exact this
theorem emT_b (t : ByteArray) : (t.toList == []) = emT t := by
 unfold emT
 cases t.toList <;> rfl
def phU (t : ByteArray) (k : Nat) : Bool := (List.range k).any (p2 t 60 63)
theorem phU_0 (t : ByteArray) : phU t 0 = false := rfl
theorem phU_s (t : ByteArray) (k : Nat) : phU t (k + 1) = (phU t k || p2 t 60 63 k) := by
 unfold phU
 rw [List.range_succ, List.any_append]
 simp
theorem phU_F (t : ByteArray) : phU t t.size = phF t := by
 unfold phU phF
 cases hs : t.size with
 | zero => rfl
 | succ m =>
  rw [List.range_succ, List.any_append, show m + 1 - 1 = m from rfl]
  simp only [List.any_cons, List.any_nil, Bool.or_false]
  rw [p2_end t 60 63 m qaa, Bool.or_false]
  apply Bool.eq_iff_iff.mpr
  rw [List.any_eq_true, List.any_eq_true]
  constructor
  ·rintro ⟨i, h1, h2⟩
   refine ⟨i, h1, ?_⟩
   unfold p2 at h2
   rw [Bool.and_eq_true] at h2
   exact h2.2
  ·rintro ⟨i, h1, h2⟩
   refine ⟨i, h1, ?_⟩
   unfold p2
   rw [List.mem_range] at h1
   rw [decide_eq_true qaa, Bool.true_and]
   exact h2
theorem ret_two {a b c d : Bool} (h : a = c) (h2 : b = d) : Ending.returned (.tuple #[.bool a, .bool b]) = Ending.returned (.tuple #[.bool c, .bool d]) := by rw [h, h2]
theorem fdS_1 (z1 : Int) (z2 : ByteArray) (z3 : List FNode) (hw : (FNode.mk 1 z1 z2 z3).wt ≤ 9000000000) : FdS (.mk 1 z1 z2 z3) := by
 have EN := hid (show fN 1 z1 = (inB z1 0 1000000000) from rfl)
 have ET := hid (show fT 1 z2 = (emT z2) from rfl)
 have Hf (w : World) u := hbA w 1 z1 z2 u
 exact zz29
theorem fdS_3 (z1 : Int) (z2 : ByteArray) (z3 : List FNode) (hw : (FNode.mk 3 z1 z2 z3).wt ≤ 9000000000) : FdS (.mk 3 z1 z2 z3) := by
 have EN := hid (show fN 3 z1 = (inB z1 0 2) from rfl)
 have ET := hid (show fT 3 z2 = (emT z2) from rfl)
 have Hf (w : World) u := hbA w 3 z1 z2 u
 exact zz29
theorem fdS_9 (z1 : Int) (z2 : ByteArray) (z3 : List FNode) (hw : (FNode.mk 9 z1 z2 z3).wt ≤ 9000000000) : FdS (.mk 9 z1 z2 z3) := by
 have EN := hid (show fN 9 z1 = (inB z1 1 2) from rfl)
 have ET := hid (show fT 9 z2 = (emT z2) from rfl)
 have Hf (w : World) u := hbA w 9 z1 z2 u
 exact zz29
theorem fdS_10 (z1 : Int) (z2 : ByteArray) (z3 : List FNode) (hw : (FNode.mk 10 z1 z2 z3).wt ≤ 9000000000) : FdS (.mk 10 z1 z2 z3) := by
 have EN := hid (show fN 10 z1 = (inB z1 1 15) from rfl)
 have ET := hid (show fT 10 z2 = (emT z2) from rfl)
 have Hf (w : World) u := hbA w 10 z1 z2 u
 exact zz29
theorem fdS_2 (z1 : Int) (z2 : ByteArray) (z3 : List FNode) (hw : (FNode.mk 2 z1 z2 z3).wt ≤ 9000000000) : FdS (.mk 2 z1 z2 z3) := by
 have EN := hid (show fN 2 z1 = (z1 == 0) from rfl)
 have ET := hid (show fT 2 z2 = (decide (z2.size ≤ 400)) from rfl)
 have Hf (w : World) u := hbA w 2 z1 z2 u
 exact zz63
theorem fdS_47 (z1 : Int) (z2 : ByteArray) (z3 : List FNode) (hw : (FNode.mk 47 z1 z2 z3).wt ≤ 9000000000) : FdS (.mk 47 z1 z2 z3) := by
 have EN := hid (show fN 47 z1 = (z1 == 0) from rfl)
 have ET := hid (show fT 47 z2 = (decide (z2.size ≤ 400)) from rfl)
 have Hf (w : World) u := hbA w 47 z1 z2 u
 exact zz63
theorem fdS_4 (z1 : Int) (z2 : ByteArray) (z3 : List FNode) (hw : (FNode.mk 4 z1 z2 z3).wt ≤ 9000000000) : FdS (.mk 4 z1 z2 z3) := by
 have EN := hid (show fN 4 z1 = (z1 == 0) from rfl)
 have ET := hid (show fT 4 z2 = (goodF z2) from rfl)
 have Hf (w : World) u := hbA w 4 z1 z2 u
 exact zz2
theorem fdS_8 (z1 : Int) (z2 : ByteArray) (z3 : List FNode) (hw : (FNode.mk 8 z1 z2 z3).wt ≤ 9000000000) : FdS (.mk 8 z1 z2 z3) := by
 have EN := hid (show fN 8 z1 = (z1 == 0) from rfl)
 have ET := hid (show fT 8 z2 = (goodF z2) from rfl)
 have Hf (w : World) u := hbA w 8 z1 z2 u
 exact zz2
theorem fdS_17 (z1 : Int) (z2 : ByteArray) (z3 : List FNode) (hw : (FNode.mk 17 z1 z2 z3).wt ≤ 9000000000) : FdS (.mk 17 z1 z2 z3) := by
 have EN := hid (show fN 17 z1 = (z1 == 0) from rfl)
 have ET := hid (show fT 17 z2 = (goodF z2) from rfl)
 have Hf (w : World) u := hbA w 17 z1 z2 u
 exact zz2
theorem fdS_18 (z1 : Int) (z2 : ByteArray) (z3 : List FNode) (hw : (FNode.mk 18 z1 z2 z3).wt ≤ 9000000000) : FdS (.mk 18 z1 z2 z3) := by
 have EN := hid (show fN 18 z1 = (z1 == 0) from rfl)
 have ET := hid (show fT 18 z2 = (goodF z2) from rfl)
 have Hf (w : World) u := hbA w 18 z1 z2 u
 exact zz2
theorem fdS_20 (z1 : Int) (z2 : ByteArray) (z3 : List FNode) (hw : (FNode.mk 20 z1 z2 z3).wt ≤ 9000000000) : FdS (.mk 20 z1 z2 z3) := by
 have EN := hid (show fN 20 z1 = (z1 == 0) from rfl)
 have ET := hid (show fT 20 z2 = (goodF z2) from rfl)
 have Hf (w : World) u := hbA w 20 z1 z2 u
 exact zz2
theorem fdS_40 (z1 : Int) (z2 : ByteArray) (z3 : List FNode) (hw : (FNode.mk 40 z1 z2 z3).wt ≤ 9000000000) : FdS (.mk 40 z1 z2 z3) := by
 have EN := hid (show fN 40 z1 = (z1 == 0) from rfl)
 have ET := hid (show fT 40 z2 = (goodF z2) from rfl)
 have Hf (w : World) u := hbA w 40 z1 z2 u
 exact zz2
theorem fdS_44 (z1 : Int) (z2 : ByteArray) (z3 : List FNode) (hw : (FNode.mk 44 z1 z2 z3).wt ≤ 9000000000) : FdS (.mk 44 z1 z2 z3) := by
 have EN := hid (show fN 44 z1 = (z1 == 0) from rfl)
 have ET := hid (show fT 44 z2 = (goodF z2) from rfl)
 have Hf (w : World) u := hbA w 44 z1 z2 u
 exact zz2
theorem fdS_49 (z1 : Int) (z2 : ByteArray) (z3 : List FNode) (hw : (FNode.mk 49 z1 z2 z3).wt ≤ 9000000000) : FdS (.mk 49 z1 z2 z3) := by
 have EN := hid (show fN 49 z1 = (z1 == 0) from rfl)
 have ET := hid (show fT 49 z2 = (goodF z2) from rfl)
 have Hf (w : World) u := hbA w 49 z1 z2 u
 exact zz2
theorem fdS_50 (z1 : Int) (z2 : ByteArray) (z3 : List FNode) (hw : (FNode.mk 50 z1 z2 z3).wt ≤ 9000000000) : FdS (.mk 50 z1 z2 z3) := by
 have EN := hid (show fN 50 z1 = (z1 == 0) from rfl)
 have ET := hid (show fT 50 z2 = (goodF z2) from rfl)
 have Hf (w : World) u := hbA w 50 z1 z2 u
 exact zz2
theorem fdS_51 (z1 : Int) (z2 : ByteArray) (z3 : List FNode) (hw : (FNode.mk 51 z1 z2 z3).wt ≤ 9000000000) : FdS (.mk 51 z1 z2 z3) := by
 have EN := hid (show fN 51 z1 = (z1 == 0) from rfl)
 have ET := hid (show fT 51 z2 = (goodF z2) from rfl)
 have Hf (w : World) u := hbA w 51 z1 z2 u
 exact zz2
theorem fdS_52 (z1 : Int) (z2 : ByteArray) (z3 : List FNode) (hw : (FNode.mk 52 z1 z2 z3).wt ≤ 9000000000) : FdS (.mk 52 z1 z2 z3) := by
 have EN := hid (show fN 52 z1 = (z1 == 0) from rfl)
 have ET := hid (show fT 52 z2 = (goodF z2) from rfl)
 have Hf (w : World) u := hbA w 52 z1 z2 u
 exact zz2
theorem fdS_53 (z1 : Int) (z2 : ByteArray) (z3 : List FNode) (hw : (FNode.mk 53 z1 z2 z3).wt ≤ 9000000000) : FdS (.mk 53 z1 z2 z3) := by
 have EN := hid (show fN 53 z1 = (z1 == 0) from rfl)
 have ET := hid (show fT 53 z2 = (goodF z2) from rfl)
 have Hf (w : World) u := hbA w 53 z1 z2 u
 exact zz2
theorem fdS_22 (z1 : Int) (z2 : ByteArray) (z3 : List FNode) (hw : (FNode.mk 22 z1 z2 z3).wt ≤ 9000000000) : FdS (.mk 22 z1 z2 z3) := by
 intro us w B hB0 hr
 obtain ⟨A3, c3, rfl, r3⟩ := hr.node
 rw [FNode.wt_eq] at hw
 have hz : z2.size ≤ 9223372036854775807 := qaa
 have hz9 : z2.size ≤ 9000000000 := qaa
 have EN := hid (show fN 22 z1 = (z1 == 0) from rfl)
 have ET := hid (show fT 22 z2 = (goodF z2 || z2.toList == statL) from rfl)
 simp only [FNode.kd, FNode.nu, FNode.tx]
 rw [EN.out, ET.out]
 have HB := hbA w 22 z1 z2 (.slice A3 z3.length c3)
 clear hr r3 hw EN ET
 cases hg : goodF z2 with
 | true =>
  go_enter Tryz.func53, Tryz.ntmps53
  go_wp2_with (first | (go_at_call 85; refine (GoS _ true hz hg _).mono ?_; rintro e w3 ⟨rfl, hb3⟩))
  all_goals exact zz41
 | false =>
  go_enter Tryz.func53, Tryz.ntmps53
  go_wp2_with (first | (go_at_call 85; refine (GoS _ false hz hg _).mono ?_; rintro e w3 ⟨rfl, hb3⟩; have bx_2 : w3.cell? ⟨w.heap.size, 2, none⟩ = some (.string z2) := (hb3.cell (p := ⟨w.heap.size, 2, none⟩) qa8).trans (by rw [World.cell?_alloc_new]; rfl)))
  all_goals exact zz41
theorem fdS_54 (z1 : Int) (z2 : ByteArray) (z3 : List FNode) (hw : (FNode.mk 54 z1 z2 z3).wt ≤ 9000000000) : FdS (.mk 54 z1 z2 z3) := by
 have EN := hid (show fN 54 z1 = (inB z1 0 1) from rfl)
 have ET := hid (show fT 54 z2 = (goodF z2) from rfl)
 have Hf (w : World) u := hbA w 54 z1 z2 u
 exact zz181
theorem fdS_55 (z1 : Int) (z2 : ByteArray) (z3 : List FNode) (hw : (FNode.mk 55 z1 z2 z3).wt ≤ 9000000000) : FdS (.mk 55 z1 z2 z3) := by
 have EN := hid (show fN 55 z1 = (inB z1 0 3) from rfl)
 have ET := hid (show fT 55 z2 = (goodF z2) from rfl)
 have Hf (w : World) u := hbA w 55 z1 z2 u
 exact zz181
theorem sp_small (t : ByteArray) : (spA t).size ≤ t.size ∧ (spBx t).size ≤ t.size := by
 unfold spA spBx
 cases ccAt t with
 | none => exact ⟨Nat.zero_le _, Nat.zero_le _⟩
 | some i => simp only [ByteArray.size_extract]; omega
theorem stc_sp (t : ByteArray) : stcF t = ((goodF (spA t) || (spA t).toList == statL) && goodF (spBx t)) := by
 unfold stcF spA spBx
 cases ccAt t with
 | none =>
  have h : goodF ByteArray.empty = false := by
   unfold goodF nameF
   rw [show ByteArray.empty.size = 0 from rfl, decide_eq_false qae, Bool.false_and, Bool.false_and, Bool.false_and]
  show false = ((goodF ByteArray.empty || _) && goodF ByteArray.empty)
  rw [h, Bool.and_false]
 | some i => rfl
theorem fdS_21 (z1 : Int) (z2 : ByteArray) (z3 : List FNode) (hw : (FNode.mk 21 z1 z2 z3).wt ≤ 9000000000) : FdS (.mk 21 z1 z2 z3) := by
 intro us w B hB0 hr
 obtain ⟨A3, c3, rfl, r3⟩ := hr.node
 rw [FNode.wt_eq] at hw
 have hz : z2.size ≤ 9223372036854775807 := qaa
 have hz9 : z2.size ≤ 9000000000 := qaa
 have EN := hid (show fN 21 z1 = (z1 == 0) from rfl)
 have ET := hid (show fT 21 z2 = (stcF z2) from rfl)
 simp only [FNode.kd, FNode.nu, FNode.tx]
 rw [EN.out, ET.out]
 have HB := hbA w 21 z1 z2 (.slice A3 z3.length c3)
 clear hr r3 hw EN ET
 rw [stc_sp]
 have hsa : (spA z2).size ≤ 9223372036854775807 := by have := (sp_small z2).1; omega
 have hsb : (spBx z2).size ≤ 9223372036854775807 := by have := (sp_small z2).2; omega
 obtain ⟨pa, hpa⟩ : ∃ p, spA z2 = p := ⟨_, rfl⟩
 obtain ⟨pb, hpb⟩ : ∃ p, spBx z2 = p := ⟨_, rfl⟩
 have HSP := hid (split_spec z2 (w.alloc (.cells #[.int .i64 21, .int .i64 z1, .string z2, .slice A3 z3.length c3] 44)) hz9)
 rw [hpa, hpb] at HSP
 rw [hpa] at hsa
 rw [hpb] at hsb
 rw [hpa, hpb]
 have tok1 : True := trivial
 cases hg : goodF pa with
 | true =>
  go_enter Tryz.func53, Tryz.ntmps53
  go_wp2_with (first | (go_at_call 86; refine HSP.out.mono ?_; rintro e w3 ⟨rfl, hb3⟩; have HB3 := hid (HB.out.trans (hb3.mono HB.out.size))) | (go_at_call 85; clear tok1; refine (GoS _ true hsa hg _).mono ?_; rintro e w4 ⟨rfl, hb4⟩; have HB4 := hid (HB3.out.trans (hb4.mono HB3.out.size))) | (go_at_call 85; refine (GoS _ _ hsb rfl _).mono ?_; rintro e w5 ⟨rfl, hb5⟩))
  all_goals (first | (go_ret2; exact ⟨ret_two rfl qbo, HB4.out.trans (hb5.mono HB4.out.size)⟩) | (go_ret2; exact ⟨ret_two rfl qbo, HB4.out⟩))
 | false =>
  cases hs : (pa.toList == [115, 116, 97, 116, 105, 99]) with
  | true =>
   have hs2 : (pa.toList == statL) = true := hs
   exact zz61
  | false =>
   have hs2 : (pa.toList == statL) = false := hs
   exact zz61
theorem fdS_31 (z1 : Int) (z2 : ByteArray) (z3 : List FNode) (hw : (FNode.mk 31 z1 z2 z3).wt ≤ 9000000000) : FdS (.mk 31 z1 z2 z3) := by
 intro us w B hB0 hr
 obtain ⟨A3, c3, rfl, r3⟩ := hr.node
 rw [FNode.wt_eq] at hw
 have hz : z2.size ≤ 9223372036854775807 := qaa
 have hz9 : z2.size ≤ 9000000000 := qaa
 have EN := hid (show fN 31 z1 = (z1 == 0) from rfl)
 have ET := hid (show fT 31 z2 = (!emT z2 && !phF z2) from rfl)
 simp only [FNode.kd, FNode.nu, FNode.tx]
 rw [EN.out, ET.out]
 have HB := hbA w 31 z1 z2 (.slice A3 z3.length c3)
 clear hr r3 hw EN ET
 go_enter Tryz.func53, Tryz.ntmps53
 go_wp2_with fail
 go_loopw [8, 5] (fun i b wr => ∃ k : Nat, k ≤ z2.size ∧ i = .int .i64 k ∧ b = .bool (!emT z2 && !phU z2 k) ∧ wr = (w.alloc (.cells #[.int .i64 31, .int .i64 z1, .string z2, .slice A3 z3.length c3] 44))) (fun i _ _ => z2.size - (intOf i).toNat)
 case atStart => exact ⟨0, Nat.zero_le _, rfl, by rw [phU_0]; simp [emT_b, emT, bne], rfl⟩
 case round =>
  obtain ⟨k, hk, rfl, rfl, rfl⟩ := hrel
  by_cases hlt : k < z2.size
  ·have HP := hid (phU_s z2 k)
   cases hb : (!emT z2 && !phU z2 k) with
   | true =>
    have hb2 := hb
    rw [Bool.and_eq_true, Bool.not_eq_true', Bool.not_eq_true'] at hb2
    obtain ⟨q1, q2⟩ := hb2
    have q1 := hid q1
    have q2 := hid q2
    clear hb
    go_wp2_with ((go_at_call 87; refine zkp (l14_spec _ _ _ hz9 hlt) ?_))
    go_roundw
    case rel => exact ⟨k + 1, by omega, by go_num, by rw [HP.out, q1.out, q2.out]; simp, by trivial⟩
    case measure => simp [intOf]; omega
   | false =>
    go_wp2_with fail
    go_roundw
    case rel => exact ⟨k + 1, by omega, by go_num, by rw [HP.out]; simp_all, by trivial⟩
    case measure => simp [intOf]; omega
  ·obtain rfl : k = z2.size := qaa
   clear hlt
   have HP := hid (phU_F z2)
   go_wp2_with fail
   go_ret2
   exact ⟨ret_two rfl (by rw [HP.out]), HB.out⟩
theorem fdS_o (z0 z1 : Int) (z2 : ByteArray) (z3 : List FNode) (hw : (FNode.mk z0 z1 z2 z3).wt ≤ 9000000000) (n1 : ¬ z0 = 1) (n3 : ¬ z0 = 3) (n9 : ¬ z0 = 9) (n10 : ¬ z0 = 10) (n2 : ¬ z0 = 2) (n47 : ¬ z0 = 47) (n4 : ¬ z0 = 4) (n8 : ¬ z0 = 8) (n17 : ¬ z0 = 17) (n18 : ¬ z0 = 18) (n20 : ¬ z0 = 20) (n40 : ¬ z0 = 40) (n44 : ¬ z0 = 44) (n49 : ¬ z0 = 49) (n50 : ¬ z0 = 50) (n51 : ¬ z0 = 51) (n52 : ¬ z0 = 52) (n53 : ¬ z0 = 53) (n22 : ¬ z0 = 22) (n54 : ¬ z0 = 54) (n55 : ¬ z0 = 55) (n21 : ¬ z0 = 21) (n31 : ¬ z0 = 31) : FdS (.mk z0 z1 z2 z3) := by
 intro us w B hB0 hr
 obtain ⟨A3, c3, rfl, r3⟩ := hr.node
 rw [FNode.wt_eq] at hw
 have hz : z2.size ≤ 9223372036854775807 := qaa
 have hz9 : z2.size ≤ 9000000000 := qaa
 have EN := hid (show fN z0 z1 = (z1 == 0) from by unfold fN; simp [n1, n3, n9, n10, n2, n47, n4, n8, n17, n18, n20, n40, n44, n49, n50, n51, n52, n53, n22, n54, n55, n21, n31])
 have ET := hid (show fT z0 z2 = (emT z2) from by unfold fT gdK; simp [n1, n3, n9, n10, n2, n47, n4, n8, n17, n18, n20, n40, n44, n49, n50, n51, n52, n53, n22, n54, n55, n21, n31])
 simp only [FNode.kd, FNode.nu, FNode.tx]
 rw [EN.out, ET.out]
 have HB := hbA w z0 z1 z2 (.slice A3 z3.length c3)
 clear hr r3 hw EN ET
 go_enter Tryz.func53, Tryz.ntmps53
 go_wp2_with (fail)
 all_goals (go_ret2; exact ⟨ret_two qap qaj, HB.out⟩)
theorem fd_spec (x : FNode) (hw : x.wt ≤ 9000000000) : FdS x := by
 obtain ⟨z0, z1, z2, z3⟩ := x
 by_cases n1 : z0 = 1
 ·subst n1
  exact fdS_1 z1 z2 z3 hw
 by_cases n3 : z0 = 3
 ·subst n3
  exact fdS_3 z1 z2 z3 hw
 by_cases n9 : z0 = 9
 ·subst n9
  exact fdS_9 z1 z2 z3 hw
 by_cases n10 : z0 = 10
 ·subst n10
  exact fdS_10 z1 z2 z3 hw
 by_cases n2 : z0 = 2
 ·subst n2
  exact fdS_2 z1 z2 z3 hw
 by_cases n47 : z0 = 47
 ·subst n47
  exact fdS_47 z1 z2 z3 hw
 by_cases n4 : z0 = 4
 ·subst n4
  exact fdS_4 z1 z2 z3 hw
 by_cases n8 : z0 = 8
 ·subst n8
  exact fdS_8 z1 z2 z3 hw
 by_cases n17 : z0 = 17
 ·subst n17
  exact fdS_17 z1 z2 z3 hw
 by_cases n18 : z0 = 18
 ·subst n18
  exact fdS_18 z1 z2 z3 hw
 by_cases n20 : z0 = 20
 ·subst n20
  exact fdS_20 z1 z2 z3 hw
 by_cases n40 : z0 = 40
 ·subst n40
  exact fdS_40 z1 z2 z3 hw
 by_cases n44 : z0 = 44
 ·subst n44
  exact fdS_44 z1 z2 z3 hw
 by_cases n49 : z0 = 49
 ·subst n49
  exact fdS_49 z1 z2 z3 hw
 by_cases n50 : z0 = 50
 ·subst n50
  exact fdS_50 z1 z2 z3 hw
 by_cases n51 : z0 = 51
 ·subst n51
  exact fdS_51 z1 z2 z3 hw
 by_cases n52 : z0 = 52
 ·subst n52
  exact fdS_52 z1 z2 z3 hw
 by_cases n53 : z0 = 53
 ·subst n53
  exact fdS_53 z1 z2 z3 hw
 by_cases n22 : z0 = 22
 ·subst n22
  exact fdS_22 z1 z2 z3 hw
 by_cases n54 : z0 = 54
 ·subst n54
  exact fdS_54 z1 z2 z3 hw
 by_cases n55 : z0 = 55
 ·subst n55
  exact fdS_55 z1 z2 z3 hw
 by_cases n21 : z0 = 21
 ·subst n21
  exact fdS_21 z1 z2 z3 hw
 by_cases n31 : z0 = 31
 ·subst n31
  exact fdS_31 z1 z2 z3 hw
 exact fdS_o z0 z1 z2 z3 hw n1 n3 n9 n10 n2 n47 n4 n8 n17 n18 n20 n40 n44 n49 n50 n51 n52 n53 n22 n54 n55 n21 n31
theorem fdC {z0 z1 : Int} {z2 : ByteArray} {z3 : List FNode} {w : World} {B : Nat} {u : Value} {a b : Bool} (FD : FdS (.mk z0 z1 z2 z3)) (hn : fN z0 z1 = a) (ht : fT z0 z2 = b) (hB0 : B ≤ w.heap.size) (r3 : RdC w B (.s 44 4 z3.length (FNode.flat z3)) u) :
  Hid (Calls Tryz.prog 53 #[.agg [.int .i64 z0, .int .i64 z1, .string z2, u].toArray] (w.alloc (.cells #[.int .i64 z0, .int .i64 z1, .string z2, u] 44)) fun e w' => e = .returned (.tuple #[.bool a, .bool b]) ∧ Below (w.alloc (.cells #[.int .i64 z0, .int .i64 z1, .string z2, u] 44)).heap.size (w.alloc (.cells #[.int .i64 z0, .int .i64 z1, .string z2, u] 44)) w') := by
 have HB0 : Below w.heap.size w (w.alloc (.cells #[.int .i64 z0, .int .i64 z1, .string z2, u] 44)) := (Below.refl _ w).alloc nr _
 have h := FD [.int .i64 z0, .int .i64 z1, .string z2, u] _ w.heap.size HB0.size (ndV ((r3.up hB0).below HB0 nr))
 simp only [FNode.kd, FNode.nu, FNode.tx] at h
 rw [hn, ht] at h
 exact hid h
end Go.Proofs.YtkkjnfappndmpaaGreatDoor
