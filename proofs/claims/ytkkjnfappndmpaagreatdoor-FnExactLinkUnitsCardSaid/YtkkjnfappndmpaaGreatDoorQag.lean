/-
 Parts of the proof: IsC, IsI0. Conditions: none.
-/
import Derived.Test.YtkkjnfappndmpaaGreatDoorQFold
import Derived.Test.YtkkjnfappndmpaaGreatDoorQad
import Derived.Test.YtkkjnfappndmpaaGreatDoorQaf
import Derived.Ground.NamesProg
import Derived.Shelf.Lay
import Derived.Shelf.LaysM
import Derived.Shelf.Strings.Cut
import Derived.Shelf.Strings.Shaped
import Derived.Lib.Index
import Derived.Lib.CutLaws
import Derived.Test.YtkkjnfappndmpaaGreatDoorQaa
set_option linter.unusedVariables false
set_option linter.unusedSimpArgs false
namespace Go.Proofs.YtkkjnfappndmpaaGreatDoor
set_option maxHeartbeats 40000000
open Go.ChangeShapes Go.WideShapes Go.ChangeAt Go.RowKit Go.Deep Go.Joins Go.Shelf
set_option maxRecDepth 100000
def laysCut_ren : Go.Shelf.Ren := ⟨fun | 145 => 148 | 220 => 154 | 219 => 149 | 217 => 155 | 225 => 156 | 224 => 157 | 267 => 158 | 266 => 161 | 314 => 162 | n => n, fun | 9 => 9 | 4 => 4 | 59 => 157 | 3 => 3 | 5 => 5 | 46 => 164 | 146 => 167 | 51 => 166 | n => n, fun | 1 => 0 | n => n⟩
theorem laysCut : Go.Proofs.LaysM.n145 Tryz.prog laysCut_ren := {
 mixed := by kernel_rfl
 f145 := Tryz.func148.trans (congrArg some qab)
 f217 := Tryz.func155.trans (congrArg some qab)
 f219 := Tryz.func149.trans (congrArg some qab)
 f220 := Tryz.func154.trans (congrArg some qab)
 f224 := Tryz.func157.trans (congrArg some qab)
 f225 := Tryz.func156.trans (congrArg some qab)
 f266 := Tryz.func161.trans (congrArg some qab)
 f267 := Tryz.func158.trans (congrArg some qab)
 f314 := Tryz.func162.trans (congrArg some qab)
 t3 := Tryz.underlying3
 a3 := Tryz.isAgg3
 z3 := Tryz.sizeOf3
 v3 := Tryz.zeroValue3
 t4 := Tryz.underlying4
 a4 := Tryz.isAgg4
 z4 := Tryz.sizeOf4
 v4 := Tryz.zeroValue4
 t5 := Tryz.underlying5
 a5 := Tryz.isAgg5
 z5 := Tryz.sizeOf5
 v5 := Tryz.zeroValue5
 t9 := Tryz.underlying9
 a9 := Tryz.isAgg9
 z9 := Tryz.sizeOf9
 v9 := Tryz.zeroValue9
 t46 := Tryz.underlying164
 a46 := Tryz.isAgg164
 z46 := Tryz.sizeOf164
 v46 := Tryz.zeroValue164
 t51 := Tryz.underlying166
 a51 := Tryz.isAgg166
 z51 := Tryz.sizeOf166
 v51 := Tryz.zeroValue166
 t59 := Tryz.underlying157
 a59 := Tryz.isAgg157
 z59 := Tryz.sizeOf157
 v59 := Tryz.zeroValue157
 t146 := Tryz.underlying167
 a146 := Tryz.isAgg167
 z146 := Tryz.sizeOf167
 v146 := Tryz.zeroValue167
 g1 := by kernel_rfl
 i3 := by kernel_rfl
 i4 := by kernel_rfl
 i5 := by kernel_rfl
 i9 := by kernel_rfl
 i46 := by kernel_rfl
 i51 := by kernel_rfl
 i59 := by kernel_rfl
 i146 := by kernel_rfl
 m1 := by kernel_rfl
 s1_3 := fun w h => Go.Proofs.cell_of_shapedOpen_int (zero := #[.int .i64 0]) (t := 3) h (of_decide_eq_true qab) qab rfl qab qab Tryz.underlying3 }
def laysContains_ren : Go.Shelf.Ren := ⟨fun | 144 => 107 | 143 => 136 | 219 => 149 | 217 => 155 | 225 => 156 | 224 => 157 | 267 => 158 | 266 => 161 | 314 => 162 | n => n, fun | 9 => 9 | 4 => 4 | 3 => 3 | 5 => 5 | 46 => 164 | 146 => 167 | 51 => 166 | n => n, fun | 1 => 0 | n => n⟩
theorem laysContains : Go.Proofs.LaysM.n144 Tryz.prog laysContains_ren := {
 mixed := by kernel_rfl
 f143 := Tryz.func136.trans (congrArg some qab)
 f144 := Tryz.func107.trans (congrArg some qab)
 f217 := Tryz.func155.trans (congrArg some qab)
 f219 := Tryz.func149.trans (congrArg some qab)
 f224 := Tryz.func157.trans (congrArg some qab)
 f225 := Tryz.func156.trans (congrArg some qab)
 f266 := Tryz.func161.trans (congrArg some qab)
 f267 := Tryz.func158.trans (congrArg some qab)
 f314 := Tryz.func162.trans (congrArg some qab)
 t3 := Tryz.underlying3
 a3 := Tryz.isAgg3
 z3 := Tryz.sizeOf3
 v3 := Tryz.zeroValue3
 t4 := Tryz.underlying4
 a4 := Tryz.isAgg4
 z4 := Tryz.sizeOf4
 v4 := Tryz.zeroValue4
 t5 := Tryz.underlying5
 a5 := Tryz.isAgg5
 z5 := Tryz.sizeOf5
 v5 := Tryz.zeroValue5
 t9 := Tryz.underlying9
 a9 := Tryz.isAgg9
 z9 := Tryz.sizeOf9
 v9 := Tryz.zeroValue9
 t46 := Tryz.underlying164
 a46 := Tryz.isAgg164
 z46 := Tryz.sizeOf164
 v46 := Tryz.zeroValue164
 t51 := Tryz.underlying166
 a51 := Tryz.isAgg166
 z51 := Tryz.sizeOf166
 v51 := Tryz.zeroValue166
 t146 := Tryz.underlying167
 a146 := Tryz.isAgg167
 z146 := Tryz.sizeOf167
 v146 := Tryz.zeroValue167
 g1 := by kernel_rfl
 i3 := by kernel_rfl
 i4 := by kernel_rfl
 i5 := by kernel_rfl
 i9 := by kernel_rfl
 i46 := by kernel_rfl
 i51 := by kernel_rfl
 i146 := by kernel_rfl
 m1 := by kernel_rfl
 s1_3 := fun w h => Go.Proofs.cell_of_shapedOpen_int (zero := #[.int .i64 0]) (t := 3) h (of_decide_eq_true qab) qab rfl qab qab Tryz.underlying3 }
/-! ### an instance of two bytes -/
theorem len_data (t : ByteArray) : t.data.toList.length = t.size := by rw [Array.length_toList]; rfl
theorem occ2 (t : ByteArray) (a b : UInt8) (i : Nat) : Lib.occAt t.data.toList [a, b] i = (decide (i + 1 < t.size) && (bI t i == (a.toNat : Int) && bI t (i + 1) == (b.toNat : Int))) := by
 unfold Lib.occAt
 by_cases h : i + 1 < t.size
 ·have h0 : i < t.data.toList.length := by rw [len_data]; omega
  have h1 : i + 1 < t.data.toList.length := by rw [len_data]; omega
  rw [List.drop_eq_getElem_cons h0, List.drop_eq_getElem_cons h1]
  have e0 : bI t i = (t.data.toList[i].toNat : Int) := bI_eq t i qaa
  have e1 : bI t (i + 1) = (t.data.toList[i + 1].toNat : Int) := bI_eq t (i + 1) qaa
  rw [e0, e1]
  have k : ∀ x y : UInt8, (x == y) = ((y.toNat : Int) == (x.toNat : Int)) := fun x y => by
   rw [Bool.eq_iff_iff, beq_iff_eq, beq_iff_eq, ← UInt8.toNat_inj]
   omega
  simp only [List.isPrefixOf, Bool.and_true, k a, k b, h, decide_true, Bool.true_and]
 ·rw [decide_eq_false h, Bool.false_and]
  rcases Nat.lt_or_ge i t.size with h2 | h2
  ·have h0 : i < t.data.toList.length := by rw [len_data]; omega
   rw [List.drop_eq_getElem_cons h0, List.drop_of_length_le (by rw [len_data]; omega)]
   simp [List.isPrefixOf]
  ·rw [List.drop_of_length_le (by rw [len_data]; omega)]
   rfl
theorem index2_some (t : ByteArray) (a b : UInt8) (i : Nat) (h : i + 1 < t.size) (hp : (bI t i == (a.toNat : Int) && bI t (i + 1) == (b.toNat : Int)) = true)
  (hn : ∀ j, j < i → (bI t j == (a.toNat : Int) && bI t (j + 1) == (b.toNat : Int)) = false) : Lib.index t.data.toList [a, b] = i :=
 Lib.index_first (by rw [len_data]; omega) (by rw [occ2, hp]; simp [h]) fun j hj => by rw [occ2, hn j hj, Bool.and_false]
theorem index2_none (t : ByteArray) (a b : UInt8) (hn : ∀ j, j + 1 < t.size → (bI t j == (a.toNat : Int) && bI t (j + 1) == (b.toNat : Int)) = false) : Lib.index t.data.toList [a, b] = -1 :=
 Lib.index_none fun j _ => by
  rw [occ2]
  by_cases h : j + 1 < t.size
  ·rw [hn j h, Bool.and_false]
  ·rw [decide_eq_false h, Bool.false_and]
theorem cc_some {t : ByteArray} {i : Nat} (h : ccAt t = some i) : Lib.indexB t ⟨#[58, 58]⟩ = i ∧ i + 1 < t.size := by
 unfold ccAt at h
 rw [List.find?_range_eq_some] at h
 obtain ⟨h1, h2, h3⟩ := h
 rw [List.mem_range] at h2
 exact ⟨index2_some t 58 58 i qaa h1 fun j hj => by have := h3 j hj; rw [Bool.not_eq_true'] at this; exact this, by omega⟩
theorem cc_none {t : ByteArray} (h : ccAt t = none) : Lib.indexB t ⟨#[58, 58]⟩ = -1 := by
 unfold ccAt at h
 rw [List.find?_eq_none] at h
 exact index2_none t 58 58 fun j hj => by have := h j (List.mem_range.mpr qaa); simpa using this
def ccA (t : ByteArray) : ByteArray := match ccAt t with | some i => t.extract 0 i | none => t
def ccB (t : ByteArray) : ByteArray := match ccAt t with | some i => t.extract (i + 2) t.size | none => ByteArray.empty
def ccF (t : ByteArray) : Bool := (ccAt t).isSome
theorem stcF_eq (t : ByteArray) : stcF t = (ccF t && ((goodF (ccA t) || (ccA t).toList == statL) && goodF (ccB t))) := by
 unfold stcF ccF ccA ccB
 cases ccAt t <;> rfl
theorem cc_small (t : ByteArray) : (ccA t).size ≤ t.size ∧ (ccB t).size ≤ t.size := by
 unfold ccA ccB
 cases ccAt t with
 | none => exact ⟨Nat.le_refl _, Nat.zero_le _⟩
 | some i => simp only [ByteArray.size_extract]; omega
theorem cutC (t : ByteArray) (w : World) (hs : t.size ≤ 4000000000) (hm : MaxAt w) : Calls Tryz.prog 148 #[.string t, .string ⟨#[58, 58]⟩] w fun e w' => e = .returned (.tuple #[.string (ccA t), .string (ccB t), .bool (ccF t)]) ∧ Below w.heap.size w w' := by
 obtain ⟨g, m, h1, h2⟩ := hm
 have hg := Option.some.inj (laysCut.m1.symm.trans h1)
 rw [← hg] at h2
 refine (Any.strings_Cut { laysCut with } t ⟨#[58, 58]⟩ m w qaa h2).mono ?_
 rintro e w' ⟨rfl, n, rfl⟩
 refine ⟨?_, below_drewN (Below.refl _ _) n⟩
 unfold ccA ccB ccF
 cases hc : ccAt t with
 | none =>
  obtain ⟨e1, e2, e3⟩ := Lib.cutB_miss t ⟨#[58, 58]⟩ (cc_none hc)
  rw [e1, e2, e3]
  rfl
 | some i =>
  obtain ⟨e1, e2, e3⟩ := Lib.cutB_hit t ⟨#[58, 58]⟩ i (cc_some hc).1
  rw [e1, e2, e3]
  rfl
theorem static_impl (t : ByteArray) (w : World) (hs : t.size ≤ 4000000000) (hm : MaxAt w) : Calls Tryz.prog 135 #[.string t] w fun e w' => e = .returned (.bool (stcF t)) ∧ Below w.heap.size w w' := by
 obtain ⟨a, b, f, HQ, HC, ha, hb⟩ : ∃ a b f, Hid (stcF t = (f && ((goodF a || a.toList == statL) && goodF b))) ∧ Hid (∀ p : ByteArray, p = ⟨#[58, 58]⟩ → Calls Tryz.prog 148 #[.string t, .string p] w fun e w' => e = .returned (.tuple #[.string a, .string b, .bool f]) ∧ Below w.heap.size w w') ∧ a.size ≤ 9223372036854775807 ∧ b.size ≤ 9223372036854775807 :=
  ⟨ccA t, ccB t, ccF t, Lib.hid (stcF_eq t), Lib.hid (fun p hp => by rw [hp]; exact cutC t w hs hm), by have := (cc_small t).1; omega, by have := (cc_small t).2; omega⟩
 have HS : Hid (statL = [115, 116, 97, 116, 105, 99]) := Lib.hid rfl
 clear hs hm
 go_enter Tryz.func135, Tryz.ntmps135
 go_wp2_with fail
 go_at_call 148
 refine (HC.out _ (by trivial)).mono ?_
 rintro e w' ⟨rfl, hb3⟩
 clear HS
 go_wp2_with ((go_at_call 104; refine zkp (good_impl _ _ qad) ?_))
 all_goals
  go_ret
  refine ⟨ret_bool ?_, by assumption⟩
  rw [HQ.out]
  clear hb3 HC
  simp_all [statL]
open Lib (hid)
open Go.ChangeShapes Go.WideShapes Go.ChangeAt Go.RowKit Go.Deep Go.Joins
open Go.ChangeMaps (open_string shut_string)
theorem emT_t {t : ByteArray} (h : t.toList = []) : emT t = true := by unfold emT; rw [h]; rfl
theorem emT_f {t : ByteArray} (h : ¬ t.toList = []) : emT t = false := by
 unfold emT
 cases e : t.toList with
 | nil => exact absurd e h
 | cons _ _ => rfl
theorem beq_0 (m : Nat) : ((m : Int) == 0) = (m == 0) := by rw [Bool.eq_iff_iff]; simp
theorem fS : (∀ t : ByteArray, t.toList = [] → emT t = true) ∧ (∀ t : ByteArray, ¬ t.toList = [] → emT t = false) ∧ (∀ m : Nat, ((m : Int) == 0) = (m == 0)) ∧ statL = [115, 116, 97, 116, 105, 99] := ⟨fun _ => emT_t, fun _ => emT_f, beq_0, rfl⟩
/-- What is settled by the rules of the flags. -/
theorem fZ {p : Prop} (h : p := by first | (simp_all [fS] <;> omega) | (simp_all [emT, fS]; done)) : p := h
def ExI (x : FNode) : Prop := ∀ (us : List Value) (w : World) (B : Nat), MaxAt w → B ≤ w.heap.size → RdVs w B x.c us → Calls Tryz.prog 106 #[.agg us.toArray] w fun e w' => e = .returned (.bool (exF x)) ∧ Below w.heap.size w w'
def StI (x : FNode) : Prop := ∀ (us : List Value) (w : World) (B : Nat), MaxAt w → B ≤ w.heap.size → RdVs w B x.c us → Calls Tryz.prog 70 #[.agg us.toArray] w fun e w' => e = .returned (.bool (stF x)) ∧ Below w.heap.size w w'
theorem all_f {l : List FNode} {f : FNode → Bool} {k : Nat} {x : FNode} (hx : l[k]? = some x) (h : f x = false) : l.all f = false := by
 rw [List.all_eq_false]
 exact ⟨x, List.mem_of_getElem? hx, by rw [h]; simp⟩
theorem all_on {l : List FNode} {f : FNode → Bool} {k : Nat} {x : FNode} (hx : l[k]? = some x) (h : (l.take k).all f = true) (h2 : f x = true) : (l.take (k + 1)).all f = true := by
 rw [List.take_add_one, hx, List.all_append, h]
 simp [h2]
def varF : FNode → Bool | .mk k n t ks => k == 4 && (n == 0 && (goodF t && ks.isEmpty))
theorem varF_ex (x : FNode) : (x.kd == 4 && exF x) = varF x := by
 obtain ⟨k, n, t, ks⟩ := x
 rw [exF_mk]
 by_cases h : k = 4
 ·subst h
  show (true && (((n == 0) && goodF t) && (ks.length == 0))) = (true && ((n == 0) && (goodF t && ks.isEmpty)))
  have : (ks.length == 0) = ks.isEmpty := by cases ks <;> rfl
  rw [this]
  cases (n == 0) <;> cases goodF t <;> rfl
 ·have h1 : (k == 4) = false := beq_false_of_ne h
  show ((k == 4) && _) = ((k == 4) && _)
  rw [h1]
  rfl
theorem var_impl (x : FNode) (hw : x.wt ≤ 9000000000) (us : List Value) (w : World) (B : Nat) (hr : RdVs w B x.c us) :
  Calls Tryz.prog 109 #[.agg us.toArray] w fun e w' => e = .returned (.bool (varF x)) ∧ Below w.heap.size w w' := by
 obtain ⟨z0, z1, z2, z3⟩ := x
 obtain ⟨A3, c3, rfl, r3⟩ := hr.node
 rw [FNode.wt_eq] at hw
 clear hr r3
 have hz : z2.size ≤ 9223372036854775807 := qaa
 have hl : z3.length ≤ 9223372036854775807 := qaa
 have EX := hid (show varF ⟨z0, z1, z2, z3⟩ = (z0 == 4 && (z1 == 0 && (goodF z2 && z3.isEmpty))) from rfl)
 go_enter Tryz.func109, Tryz.ntmps109
 go_wp2_with (go_at_call 104; refine zkp (good_impl _ _ hz) ?_)
 all_goals
  go_ret
  refine ⟨ret_bool ?_, (Below.refl _ _).alloc nr _⟩
  rw [EX.out]
  first
   | (simp_all; done)
   | (cases z3 <;> simp_all; done)
   | (cases z3 <;> simp_all <;> omega)
def AlI (l : List FNode) : Prop := ∀ (u : Value) (w : World) (B : Nat), MaxAt w → B ≤ w.heap.size → RdC w B (.s 44 4 l.length (FNode.flat l)) u → Calls Tryz.prog 110 #[u] w fun e w' => e = .returned (.bool (l.all exF)) ∧ Below w.heap.size w w'
theorem alI_of (l : List FNode) (hl : l.length ≤ 1000000000) (hE : ∀ x, x ∈ l → ExI x) : AlI l := by
 intro u w B hmx hB0 hr
 obtain ⟨A, c, rfl⟩ := hr.form
 have HC := hid hr
 have HE := hid hE
 have hn : l.length ≤ 9223372036854775807 := qaa
 clear hr hE
 go_enter Tryz.func110, Tryz.ntmps110
 go_wp2_with fail
 go_loopw [7] (fun i wr => ∃ k : Nat, k ≤ l.length ∧ i = .int .i64 k ∧ Hid ((l.take k).all exF = true) ∧ Below w.heap.size w wr) (fun i _ => l.length - (intOf i).toNat)
 case atStart => exact ⟨0, Nat.zero_le _, rfl, hid rfl, Below.refl _ _⟩
 case round =>
  obtain ⟨k, hk, rfl, HA, hb⟩ := hrel
  have hbs := hb.size
  by_cases hlt : k < l.length
  ·skip
   obtain ⟨x, hx⟩ : ∃ x, l[k]? = some x := ⟨_, List.getElem?_eq_getElem hlt⟩
   obtain ⟨bc, offc, rfl, hblc, hcc⟩ := RdC.at_ FNode.len HC.out hx
   have HX := hid hx
   have HM := hid (List.mem_of_getElem? hx)
   clear hx
   obtain ⟨y0, y1, y2, y3⟩ := x
   obtain ⟨D, d, c_0, c_1, c_2, c_3, q3⟩ := opN hb qaa hcc (offc + k * 4) (offc + k * 4 + 1) (offc + k * 4 + 2) (offc + k * 4 + 3) qaa
   have Q3 := hid q3
   clear hcc q3
   have HV := hid (HE.out _ HM.out)
   have hb2 := hb.alloc hbs (.cells #[.int .i64 y0, .int .i64 y1, .string y2, .slice D y3.length d] 44)
   have CALL := hid (HV.out [.int .i64 y0, .int .i64 y1, .string y2, .slice D y3.length d] _ w.heap.size (hmx.below hb2) hb2.size (ndV ((Q3.out.up hB0).below hb2 nr)))
   cases hv : exF ⟨y0, y1, y2, y3⟩ with
   | true =>
    have HT := hid hv
    rw [hv] at CALL
    clear hv
    go_wp2_with (go_at_call 106; refine CALL.out.mono ?_; rintro e w2 ⟨rfl, hb3⟩)
    go_roundw
    case rel => exact ⟨k + 1, by omega, by go_num, hid (all_on HX.out HA.out HT.out), hb2.trans (hb3.mono hb2.size)⟩
    case measure => simp [intOf]; omega
   | false =>
    have HT := hid hv
    rw [hv] at CALL
    clear hv
    go_wp2_with (go_at_call 106; refine CALL.out.mono ?_; rintro e w2 ⟨rfl, hb3⟩)
    go_ret
    exact ⟨ret_bool (all_f HX.out HT.out).symm, hb2.trans (hb3.mono hb2.size)⟩
  ·exact zz98
end Go.Proofs.YtkkjnfappndmpaaGreatDoor
