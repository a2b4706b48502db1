/-
 Parts of the proof: IsJ1, IsJ2, IsJ3, IsJ4. Conditions: none.
-/
import Derived.Test.YtkkjnfappndmpaaGreatDoorQFold
import Derived.Test.YtkkjnfappndmpaaGreatDoorQaa
import Derived.Test.YtkkjnfappndmpaaGreatDoorQag
set_option linter.unusedVariables false
set_option linter.unusedSimpArgs false
namespace Go.Proofs.YtkkjnfappndmpaaGreatDoor
open Lib (hid)
open Go.ChangeShapes Go.WideShapes Go.ChangeAt Go.RowKit Go.Deep Go.Joins
open Go.ChangeMaps (open_string shut_string)
set_option maxRecDepth 100000
theorem stI_37 (z1 : Int) (z2 : ByteArray) (z3 : List FNode) (hw : (FNode.mk 37 z1 z2 z3).wt ≤ 9000000000) : StI (.mk 37 z1 z2 z3) := by
 have EX := hid (show stF ⟨37, z1, z2, z3⟩ = (((z1 == 0) && emT z2) && (z3.length == 0)) from by rw [stF_mk]; rfl)
 have Hf (w : World) u := hbA w 37 z1 z2 u
 exact zz213
theorem stI_38 (z1 : Int) (z2 : ByteArray) (z3 : List FNode) (hw : (FNode.mk 38 z1 z2 z3).wt ≤ 9000000000) : StI (.mk 38 z1 z2 z3) := by
 have EX := hid (show stF ⟨38, z1, z2, z3⟩ = (((z1 == 0) && emT z2) && (z3.length == 0)) from by rw [stF_mk]; rfl)
 have Hf (w : World) u := hbA w 38 z1 z2 u
 exact zz213
theorem stI_39 (z1 : Int) (z2 : ByteArray) (z3 : List FNode) (hw : (FNode.mk 39 z1 z2 z3).wt ≤ 9000000000) (hA : AlI z3) : StI (.mk 39 z1 z2 z3) := by
 intro us w B hmx hB0 hr
 obtain ⟨A3, c3, rfl, r3⟩ := hr.node
 rw [FNode.wt_eq] at hw
 have hz : z2.size ≤ 9223372036854775807 := qaa
 have hl : z3.length ≤ 9223372036854775807 := qaa
 have EX := hid (show stF ⟨39, z1, z2, z3⟩ = (((z1 == 0) && emT z2) && (decide (z3.length ≤ 1) && z3.all exF)) from by rw [stF_mk]; rfl)
 unfold AlI at hA
 obtain ⟨m, hm⟩ : ∃ m, z3.length = m := ⟨_, rfl⟩
 try rw [hm] at EX
 rw [hm] at hl r3 hA ⊢
 have HB := hbA w 39 z1 z2 (.slice A3 m c3)
 have CALL := hid (hA _ _ w.heap.size (hmx.below HB.out) HB.out.size ((r3.up hB0).below HB.out nr))
 clear hm hr r3 hw hA
 by_cases e1 : z1 = 0
 ·subst e1
  go_enter Tryz.func70, Tryz.ntmps70
  exact zz10
 ·
  go_enter Tryz.func70, Tryz.ntmps70
  exact zz10
theorem stI_40 (z1 : Int) (z2 : ByteArray) (z3 : List FNode) (hw : (FNode.mk 40 z1 z2 z3).wt ≤ 9000000000) : StI (.mk 40 z1 z2 z3) := by
 intro us w B hmx hB0 hr
 obtain ⟨A3, c3, rfl, r3⟩ := hr.node
 rw [FNode.wt_eq] at hw
 have hz : z2.size ≤ 9223372036854775807 := qaa
 have hl : z3.length ≤ 9223372036854775807 := qaa
 have EX := hid (show stF ⟨40, z1, z2, z3⟩ = (((z1 == 0) && goodF z2) && (z3.length == 0)) from by rw [stF_mk]; rfl)
 obtain ⟨m, hm⟩ : ∃ m, z3.length = m := ⟨_, rfl⟩
 try rw [hm] at EX
 rw [hm] at hl r3  ⊢
 have HB := hbA w 40 z1 z2 (.slice A3 m c3)
 clear hm hr r3 hw
 by_cases e2 : z1 = 0
 ·subst e2
  by_cases e1 : m = 0
  ·subst e1
   go_enter Tryz.func70, Tryz.ntmps70
   exact zz189
  ·
   go_enter Tryz.func70, Tryz.ntmps70
   exact zz189
 ·
  go_enter Tryz.func70, Tryz.ntmps70
  exact zz189
theorem stI_47 (z1 : Int) (z2 : ByteArray) (z3 : List FNode) (hw : (FNode.mk 47 z1 z2 z3).wt ≤ 9000000000) : StI (.mk 47 z1 z2 z3) := by
 intro us w B hmx hB0 hr
 obtain ⟨A3, c3, rfl, r3⟩ := hr.node
 rw [FNode.wt_eq] at hw
 have hz : z2.size ≤ 9223372036854775807 := qaa
 have hl : z3.length ≤ 9223372036854775807 := qaa
 have EX := hid (show stF ⟨47, z1, z2, z3⟩ = (((z1 == 0) && decide (z2.size ≤ 400)) && (z3.length == 0)) from by rw [stF_mk]; rfl)
 obtain ⟨m, hm⟩ : ∃ m, z3.length = m := ⟨_, rfl⟩
 try rw [hm] at EX
 rw [hm] at hl r3  ⊢
 have HB := hbA w 47 z1 z2 (.slice A3 m c3)
 clear hm hr r3 hw
 by_cases e2 : z1 = 0
 ·subst e2
  by_cases e1 : m = 0
  ·subst e1
   exact zz215
  ·
   go_enter Tryz.func70, Tryz.ntmps70
   exact zz176
 ·
  go_enter Tryz.func70, Tryz.ntmps70
  exact zz176
theorem stI_32 (z1 : Int) (z2 : ByteArray) (z3 : List FNode) (hw : (FNode.mk 32 z1 z2 z3).wt ≤ 9000000000) (hE : ∀ x, x ∈ z3 → ExI x) : StI (.mk 32 z1 z2 z3) := by
 have EX := hid (show stF ⟨32, z1, z2, z3⟩ = (((z1 == 0) && emT z2) && (z3.length == 1 && z3.all exF)) from by rw [stF_mk]; rfl)
 have Hf (w : World) u := hbA w 32 z1 z2 u
 exact zz14
theorem stI_33 (z1 : Int) (z2 : ByteArray) (z3 : List FNode) (hw : (FNode.mk 33 z1 z2 z3).wt ≤ 9000000000) (hE : ∀ x, x ∈ z3 → ExI x) : StI (.mk 33 z1 z2 z3) := by
 have EX := hid (show stF ⟨33, z1, z2, z3⟩ = (((z1 == 0) && emT z2) && (z3.length == 1 && z3.all exF)) from by rw [stF_mk]; rfl)
 have Hf (w : World) u := hbA w 33 z1 z2 u
 exact zz14
theorem stI_42 (z1 : Int) (z2 : ByteArray) (z3 : List FNode) (hw : (FNode.mk 42 z1 z2 z3).wt ≤ 9000000000) (hE : ∀ x, x ∈ z3 → ExI x) : StI (.mk 42 z1 z2 z3) := by
 have EX := hid (show stF ⟨42, z1, z2, z3⟩ = (((z1 == 0) && emT z2) && (z3.length == 1 && z3.all exF)) from by rw [stF_mk]; rfl)
 have Hf (w : World) u := hbA w 42 z1 z2 u
 exact zz14
set_option maxHeartbeats 40000000
theorem stI_48 (z1 : Int) (z2 : ByteArray) (z3 : List FNode) (hw : (FNode.mk 48 z1 z2 z3).wt ≤ 9000000000) (hE : ∀ x, x ∈ z3 → StI x) : StI (.mk 48 z1 z2 z3) := by
 intro us w B hmx hB0 hr
 obtain ⟨A3, c3, rfl, r3⟩ := hr.node
 rw [FNode.wt_eq] at hw
 have hz : z2.size ≤ 9223372036854775807 := qaa
 have hl : z3.length ≤ 9223372036854775807 := qaa
 have EX := hid (show stF ⟨48, z1, z2, z3⟩ = (((z1 == 0) && emT z2) && z3.all stF) from by rw [stF_mk]; rfl)
 have HC := hid r3
 have HE := hid hE
 clear hr r3 hw hE
 by_cases e2 : z1 = 0
 ·subst e2
  go_enter Tryz.func70, Tryz.ntmps70
  go_wp2_with fail
  go_loopw [213] (fun i wr => ∃ k : Nat, k ≤ z3.length ∧ i = .int .i64 k ∧ Hid ((z3.take k).all stF = true) ∧ Below w.heap.size w wr) (fun i _ => z3.length - (intOf i).toNat)
  case atStart => exact ⟨0, Nat.zero_le _, rfl, hid rfl, (Below.refl _ _).alloc nr _⟩
  case round =>
   obtain ⟨k, hk, rfl, HA, hb⟩ := hrel
   have hbs := hb.size
   by_cases hlt : k < z3.length
   ·skip
    obtain ⟨x, hx⟩ : ∃ x, z3[k]? = some x := ⟨_, List.getElem?_eq_getElem hlt⟩
    obtain ⟨bc, offc, rfl, hblc, hcc⟩ := RdC.at_ FNode.len HC.out hx
    have HX := hid hx
    have HM := hid (List.mem_of_getElem? hx)
    clear hx
    obtain ⟨y0, y1, y2, y3⟩ := x
    obtain ⟨D, d, c_0, c_1, c_2, c_3, q3⟩ := opN hb qaa hcc (offc + k * 4) (offc + k * 4 + 1) (offc + k * 4 + 2) (offc + k * 4 + 3) qaa
    have Q3 := hid q3
    clear hcc q3
    have HV := hid (HE.out _ HM.out)
    have hb2 := hb.alloc hbs (.cells #[.int .i64 y0, .int .i64 y1, .string y2, .slice D y3.length d] 44)
    have CALL := hid (HV.out [.int .i64 y0, .int .i64 y1, .string y2, .slice D y3.length d] _ w.heap.size (hmx.below hb2) hb2.size (ndV ((Q3.out.up hB0).below hb2 nr)))
    cases hv : stF ⟨y0, y1, y2, y3⟩ with
    | true =>
     exact zz88
    | false =>
     have HT := hid hv
     rw [hv] at CALL
     clear hv
     go_wp2_with (go_at_call 70; refine CALL.out.mono ?_; rintro e w2 ⟨rfl, hb3⟩)
     go_ret
     exact ⟨ret_bool (by rw [EX.out, all_f HX.out HT.out, Bool.and_false]), hb2.trans (hb3.mono hb2.size)⟩
   ·exact zz123
 ·go_enter Tryz.func70, Tryz.ntmps70
  go_wp2_with fail
  all_goals (go_ret; exact ⟨ret_bool (by rw [EX.out, beq_false_of_ne e2]; rfl), (Below.refl _ _).alloc nr _⟩)
open Go.Shelf Go.ChangeShapes Go.WideShapes Go.ChangeAt Go.RowKit Go.Deep Go.Joins
def ctn (t p : ByteArray) : Bool := Lib.contains t.data.toList p.data.toList
theorem containsP (t p : ByteArray) (w : World) (hs : t.size ≤ 4000000000) (hm : MaxAt w) : Calls Tryz.prog 107 #[.string t, .string p] w fun e w' => e = .returned (.bool (ctn t p)) ∧ w = w' := by
 obtain ⟨g, m, h1, h2⟩ := hm
 have hg := Option.some.inj (laysContains.m1.symm.trans h1)
 rw [← hg] at h2
 refine (Any.strings_Contains { laysContains with } t p m w qaa h2).mono ?_
 rintro e w' ⟨rfl, rfl⟩
 exact ⟨rfl, rfl⟩
theorem ctn_ph (t : ByteArray) : ctn t ⟨#[60, 63]⟩ = phF t := by
 show Lib.contains t.data.toList [60, 63] = phF t
 unfold Lib.contains
 cases hp : phF t with
 | true =>
  unfold phF at hp
  cases hf : (List.range (t.size - 1)).find? fun i => bI t i == 60 && bI t (i + 1) == 63 with
  | none =>
   rw [List.find?_eq_none] at hf
   obtain ⟨x, hx, hx2⟩ := List.any_eq_true.mp hp
   exact absurd hx2 (hf x hx)
  | some i =>
   rw [List.find?_range_eq_some] at hf
   obtain ⟨k1, k2, k3⟩ := hf
   rw [List.mem_range] at k2
   have := index2_some t 60 63 i qaa k1 fun j hj => by have := k3 j hj; rw [Bool.not_eq_true'] at this; exact this
   rw [this]
   simp
 | false =>
  unfold phF at hp
  rw [List.any_eq_false] at hp
  have := index2_none t 60 63 fun j hj => by have := hp j (List.mem_range.mpr qaa); simpa using this
  rw [this]
  rfl
theorem stI_31 (z1 : Int) (z2 : ByteArray) (z3 : List FNode) (hw : (FNode.mk 31 z1 z2 z3).wt ≤ 9000000000) (hz4 : z2.size ≤ 4000000000) : StI (.mk 31 z1 z2 z3) := by
 intro us w B hmx hB0 hr
 obtain ⟨A3, c3, rfl, r3⟩ := hr.node
 rw [FNode.wt_eq] at hw
 have hz : z2.size ≤ 9223372036854775807 := qaa
 have hl : z3.length ≤ 9223372036854775807 := qaa
 have EX := Lib.hid (show stF ⟨31, z1, z2, z3⟩ = (((z1 == 0) && (!emT z2 && !phF z2)) && (z3.length == 0)) from by rw [stF_mk]; rfl)
 obtain ⟨m, hm⟩ : ∃ m, z3.length = m := ⟨_, rfl⟩
 try rw [hm] at EX
 rw [hm] at hl r3  ⊢
 have HB := hbA w 31 z1 z2 (.slice A3 m c3)
 clear hm hr r3 hw
 rw [← ctn_ph] at EX
 by_cases e2 : z1 = 0
 ·subst e2
  by_cases e1 : m = 0
  ·subst e1
   go_enter Tryz.func70, Tryz.ntmps70
   exact zz201
  ·
   go_enter Tryz.func70, Tryz.ntmps70
   exact zz201
 ·
  go_enter Tryz.func70, Tryz.ntmps70
  exact zz201
end Go.Proofs.YtkkjnfappndmpaaGreatDoor
