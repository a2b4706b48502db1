/-
 Parts of the proof: Find, FindC, FdA, FindU. Conditions: none.
-/
import Derived.Test.YtkkjnfappndmpaaGreatDoorQFold
import Derived.Test.YtkkjnfappndmpaaGreatDoorQaa
set_option linter.unusedVariables false
set_option linter.unusedSimpArgs false
namespace Go.Proofs.YtkkjnfappndmpaaGreatDoor
open Go.ChangeShapes Go.WideShapes Go.ChangeAt Go.RowKit Go.Deep Go.Joins
open Go.ChangeMaps (open_string shut_string)
/-- The place of the first element whose name is s, or -1. -/
def fidx {α : Type} (nm : α → ByteArray) (l : List α) (s : ByteArray) : Int := match l.findIdx? (fun x => (nm x).toList == s.toList) with
 | some i => i
 | none => -1
theorem fidx_hit {α : Type} {nm : α → ByteArray} {l : List α} {s : ByteArray} {k : Nat} {x : α} (hx : l[k]? = some x) (hq : ((nm x).toList == s.toList) = true) (hno : ∀ (j : Nat) (y : α), j < k → l[j]? = some y → ((nm y).toList == s.toList) = false) : fidx nm l s = k := by
 have hk : k < l.length := (List.getElem?_eq_some_iff.1 hx).1
 have he : l[k] = x := (List.getElem?_eq_some_iff.1 hx).2
 have : l.findIdx? (fun x => (nm x).toList == s.toList) = some k := by
  rw [List.findIdx?_eq_some_iff_getElem]
  refine ⟨hk, by rw [he]; exact hq, fun j hj => ?_⟩
  have := hno j l[j] hj (List.getElem?_eq_getElem qaa)
  rw [this]
  simp
 unfold fidx
 rw [this]
theorem fidx_miss {α : Type} {nm : α → ByteArray} {l : List α} {s : ByteArray} (hno : ∀ (j : Nat) (y : α), l[j]? = some y → ((nm y).toList == s.toList) = false) : fidx nm l s = -1 := by
 have : l.findIdx? (fun x => (nm x).toList == s.toList) = none := by
  rw [List.findIdx?_eq_none_iff]
  intro x hx
  obtain ⟨j, hj⟩ := List.mem_iff_getElem?.1 hx
  rw [hno j x hj]
 unfold fidx
 rw [this]
theorem fidx_lt {α : Type} (nm : α → ByteArray) (l : List α) (s : ByteArray) : fidx nm l s = -1 ∨ ∃ (k : Nat) (x : α), fidx nm l s = k ∧ k < l.length ∧ l[k]? = some x := by
 unfold fidx
 cases h : l.findIdx? (fun x => (nm x).toList == s.toList) with
 | none => exact .inl rfl
 | some k =>
  rw [List.findIdx?_eq_some_iff_getElem] at h
  obtain ⟨hk, _⟩ := h
  exact .inr ⟨k, l[k], rfl, hk, List.getElem?_eq_getElem hk⟩
set_option maxHeartbeats 40000000
open Lib (hid)
set_option maxRecDepth 100000
def FClass.nm : FClass → ByteArray
 | ⟨z0, _, _, _⟩ => z0
theorem FindClass_spec (l : List FClass) (s : ByteArray) (u : Value) (w : World) (hl : l.length ≤ 1000000000) {B : Nat} (hB0 : B ≤ w.heap.size) (hr0 : RdC w B (.s 56 4 l.length (FClass.flat l)) u) :
  Calls Tryz.prog 36 #[u, .string s] w fun e w' => e = .returned (.int .i64 (fidx FClass.nm l s)) ∧ Below w.heap.size w w' := by
 have hr := hr0.up hB0
 clear hr0
 obtain ⟨A, c, rfl⟩ := hr.form
 have HC := hid hr
 have hn : l.length ≤ 9223372036854775807 := qaa
 clear hr
 go_enter Tryz.func36, Tryz.ntmps36
 go_wp2_with fail
 go_loopw [5] (fun i wr => ∃ k : Nat, k ≤ l.length ∧ i = .int .i64 k ∧ (∀ (j : Nat) (y : FClass), j < k → l[j]? = some y → ((FClass.nm y).toList == s.toList) = false) ∧ Below w.heap.size w wr) (fun i _ => l.length - (intOf i).toNat)
 case atStart => exact zz113
 case round =>
  obtain ⟨k, hk, rfl, hno, hb⟩ := hrel
  have HNO := hid hno
  clear hno
  by_cases hlt : k < l.length
  ·obtain ⟨x, hx⟩ : ∃ x, l[k]? = some x := ⟨_, List.getElem?_eq_getElem hlt⟩
   obtain ⟨bc, offc, rfl, hblc, hcc⟩ := RdC.at_ FClass.len HC.out hx
   have HX := hid hx
   have hbs := hb.size
   clear hx
   obtain ⟨z0, z1, z2, z3⟩ := x
   rw [FClass.c_eq] at hcc
   obtain ⟨u0, e0, q0⟩ := hcc 0 _ rfl
   obtain rfl := q0.val
   clear q0
   have c_0 : wr.cell? ⟨bc, offc + k * 4, none⟩ = some (.string z0) := (hb.cell (p := ⟨bc, _, none⟩) hblc).trans qa3
   obtain ⟨u1, e1, q1⟩ := hcc 1 _ rfl
   obtain rfl := q1.val
   clear q1
   have c_1 : wr.cell? ⟨bc, offc + k * 4 + 1, none⟩ = some (.string z1) := (hb.cell (p := ⟨bc, _, none⟩) hblc).trans qa4
   obtain ⟨u2, e2, q2⟩ := hcc 2 _ rfl
   obtain ⟨A2, c2, rfl⟩ := q2.form
   clear q2
   have c_2 : wr.cell? ⟨bc, offc + k * 4 + 2, none⟩ = some (.slice A2 z2.length c2) := (hb.cell (p := ⟨bc, _, none⟩) hblc).trans qa5
   obtain ⟨u3, e3, q3⟩ := hcc 3 _ rfl
   obtain ⟨A3, c3, rfl⟩ := q3.form
   clear q3
   have c_3 : wr.cell? ⟨bc, offc + k * 4 + 3, none⟩ = some (.slice A3 z3.length c3) := (hb.cell (p := ⟨bc, _, none⟩) hblc).trans qa6
   clear hcc e0 e1 e2 e3
   exact zz187
  ·exact zz40
theorem FindClass_impl (l : List FClass) (s : ByteArray) (u : Value) (w : World) (hl : l.length ≤ 1000000000) {B : Nat} (hB0 : B ≤ w.heap.size) (hr0 : RdC w B (.s 56 4 l.length (FClass.flat l)) u) :
  Calls Tryz.prog 74 #[u, .string s] w fun e w' => e = .returned (.int .i64 (fidx FClass.nm l s)) ∧ Below w.heap.size w w' := by
 have hr := hr0.up hB0
 clear hr0
 obtain ⟨A, c, rfl⟩ := hr.form
 have HC := hid hr
 have hn : l.length ≤ 9223372036854775807 := qaa
 clear hr
 go_enter Tryz.func74, Tryz.ntmps74
 go_wp2_with fail
 go_loopw [9] (fun i wr => ∃ k : Nat, k ≤ l.length ∧ i = .int .i64 k ∧ (∀ (j : Nat) (y : FClass), j < k → l[j]? = some y → ((FClass.nm y).toList == s.toList) = false) ∧ Below w.heap.size w wr) (fun i _ => l.length - (intOf i).toNat)
 case atStart => exact zz113
 case round =>
  obtain ⟨k, hk, rfl, hno, hb⟩ := hrel
  have HNO := hid hno
  clear hno
  by_cases hlt : k < l.length
  ·obtain ⟨x, hx⟩ : ∃ x, l[k]? = some x := ⟨_, List.getElem?_eq_getElem hlt⟩
   obtain ⟨bc, offc, rfl, hblc, hcc⟩ := RdC.at_ FClass.len HC.out hx
   have HX := hid hx
   have hbs := hb.size
   clear hx
   obtain ⟨z0, z1, z2, z3⟩ := x
   rw [FClass.c_eq] at hcc
   obtain ⟨u0, e0, q0⟩ := hcc 0 _ rfl
   obtain rfl := q0.val
   clear q0
   have c_0 : wr.cell? ⟨bc, offc + k * 4, none⟩ = some (.string z0) := (hb.cell (p := ⟨bc, _, none⟩) hblc).trans qa3
   obtain ⟨u1, e1, q1⟩ := hcc 1 _ rfl
   obtain rfl := q1.val
   clear q1
   have c_1 : wr.cell? ⟨bc, offc + k * 4 + 1, none⟩ = some (.string z1) := (hb.cell (p := ⟨bc, _, none⟩) hblc).trans qa4
   obtain ⟨u2, e2, q2⟩ := hcc 2 _ rfl
   obtain ⟨A2, c2, rfl⟩ := q2.form
   clear q2
   have c_2 : wr.cell? ⟨bc, offc + k * 4 + 2, none⟩ = some (.slice A2 z2.length c2) := (hb.cell (p := ⟨bc, _, none⟩) hblc).trans qa5
   obtain ⟨u3, e3, q3⟩ := hcc 3 _ rfl
   obtain ⟨A3, c3, rfl⟩ := q3.form
   clear q3
   have c_3 : wr.cell? ⟨bc, offc + k * 4 + 3, none⟩ = some (.slice A3 z3.length c3) := (hb.cell (p := ⟨bc, _, none⟩) hblc).trans qa6
   clear hcc e0 e1 e2 e3
   exact zz186
  ·exact zz40
def atI {α : Type} (l : List α) (i : Int) : Option α := if 0 ≤ i then l[i.toNat]? else none
theorem atI_neg {α : Type} (l : List α) : atI l (-1) = none := rfl
theorem atI_nat {α : Type} {l : List α} {k : Nat} {x : α} (h : l[k]? = some x) : atI l (k : Int) = some x := by
 unfold atI
 rw [if_pos qaa, Int.toNat_natCast, h]
theorem atI_some {α : Type} {l : List α} {i : Int} {x : α} (h : atI l i = some x) : x ∈ l := by
 unfold atI at h
 split at h
 ·exact List.mem_of_getElem? h
 ·cases h
def FMethod.nm : FMethod → ByteArray
 | ⟨z0, _, _, _, _⟩ => z0
theorem methodAt1_any (z0 : ByteArray) (z1 : ByteArray) (z2 : ByteArray) (z3 : Bool) (z4 : Bool)  (s : ByteArray) (b : Nat) (w : World) (hb : b < w.heap.size) (hc : w.cell? ⟨b, 0, none⟩ = some (.string s)) :
  Calls Tryz.prog 140 #[.agg #[.string z0, .string z1, .string z2, .bool z3, .bool z4], .pointer (some ⟨b, 0, none⟩)] w fun e w' => e = .returned (.bool (z0.toList == s.toList)) ∧ Below w.heap.size w w' := by
 go_enter Tryz.func140, Tryz.ntmps140
 go_wp2_with fail
 go_ret
 exact ⟨rfl, (Below.refl _ _).alloc nr _⟩
theorem indexMethod_any (l : List FMethod) (s : ByteArray) (u : Value) (b : Nat) (w : World) (hl : l.length ≤ 1000000000) {B : Nat} (hB0 : B ≤ w.heap.size) (hb0 : b < w.heap.size) (hc : w.cell? ⟨b, 0, none⟩ = some (.string s)) (hr0 : RdC w B (.s 87 5 l.length (FMethod.flat l)) u) :
  Calls Tryz.prog 139 #[u, .func (Fn.func 140) #[] #[.pointer (some ⟨b, 0, none⟩)]] w fun e w' => e = .returned (.int .i64 (fidx FMethod.nm l s)) ∧ Below w.heap.size w w' := by
 have hr := hr0.up hB0
 clear hr0
 obtain ⟨A, c, rfl⟩ := hr.form
 have HC := hid hr
 have hn : l.length ≤ 9223372036854775807 := qaa
 have HCC := hid hc
 clear hr hc
 go_enter Tryz.func139, Tryz.ntmps139
 go_wp2_with fail
 go_loopw [8] (fun i wr => ∃ k : Nat, k ≤ l.length ∧ i = .int .i64 k ∧ (∀ (j : Nat) (y : FMethod), j < k → l[j]? = some y → ((FMethod.nm y).toList == s.toList) = false) ∧ Below w.heap.size w wr) (fun i _ => l.length - (intOf i).toNat)
 case atStart => exact zz113
 case round =>
  obtain ⟨k, hk, rfl, hno, hb⟩ := hrel
  have HNO := hid hno
  clear hno
  by_cases hlt : k < l.length
  ·obtain ⟨x, hx⟩ : ∃ x, l[k]? = some x := ⟨_, List.getElem?_eq_getElem hlt⟩
   obtain ⟨bc, offc, rfl, hblc, hcc⟩ := RdC.at_ FMethod.len HC.out hx
   have HX := hid hx
   have hbs := hb.size
   have HS := hid ((hb.cell (p := ⟨b, 0, none⟩) hb0).trans HCC.out)
   clear hx
   obtain ⟨z0, z1, z2, z3, z4⟩ := x
   rw [FMethod.c_eq] at hcc
   obtain ⟨u0, e0, q0⟩ := hcc 0 _ rfl
   obtain rfl := q0.val
   have kz_0 : wr.cell? ⟨bc, offc + k * 5, none⟩ = some (.string z0) := (hb.cell (p := ⟨bc, _, none⟩) hblc).trans qa3
   obtain ⟨u1, e1, q1⟩ := hcc 1 _ rfl
   obtain rfl := q1.val
   have kz_1 : wr.cell? ⟨bc, offc + k * 5 + 1, none⟩ = some (.string z1) := (hb.cell (p := ⟨bc, _, none⟩) hblc).trans qa4
   obtain ⟨u2, e2, q2⟩ := hcc 2 _ rfl
   obtain rfl := q2.val
   have kz_2 : wr.cell? ⟨bc, offc + k * 5 + 2, none⟩ = some (.string z2) := (hb.cell (p := ⟨bc, _, none⟩) hblc).trans qa5
   obtain ⟨u3, e3, q3⟩ := hcc 3 _ rfl
   obtain rfl := q3.val
   have kz_3 : wr.cell? ⟨bc, offc + k * 5 + 3, none⟩ = some (.bool z3) := (hb.cell (p := ⟨bc, _, none⟩) hblc).trans qa6
   obtain ⟨u4, e4, q4⟩ := hcc 4 _ rfl
   obtain rfl := q4.val
   have kz_4 : wr.cell? ⟨bc, offc + k * 5 + 4, none⟩ = some (.bool z4) := (hb.cell (p := ⟨bc, _, none⟩) hblc).trans qbn
   clear hcc e0 q0 e1 q1 e2 q2 e3 q3 e4 q4
   go_wp2_with fail
   refine (methodAt1_any z0 z1 z2 z3 z4 s b _ qaa HS.out).mono ?_
   exact zz182
  ·exact zz40
theorem methodAt_any (l : List FMethod) (s : ByteArray) (u : Value) (w : World) (hl : l.length ≤ 1000000000) {B : Nat} (hB0 : B ≤ w.heap.size) (hr : RdC w B (.s 87 5 l.length (FMethod.flat l)) u) :
  Calls Tryz.prog 115 #[u, .string s] w fun e w' => e = .returned (.int .i64 (fidx FMethod.nm l s)) ∧ Below w.heap.size w w' := by
 have HR := hid hr
 clear hr
 go_enter Tryz.func115, Tryz.ntmps115
 go_wp2_with fail
 refine (indexMethod_any l s u _ _ hl (B := B) qak qag (World.cell?_alloc_new _ _ _ _) (HR.out.below ((Below.refl _ _).alloc nr _) hB0)).mono ?_
 rintro e w2 ⟨rfl, hb2⟩
 go_wp2_with fail
 go_ret
 exact ⟨rfl, ((Below.refl _ _).alloc nr _).trans (hb2.mono qag)⟩
def FField.nm : FField → ByteArray
 | ⟨z0, _, _, ⟨_, _, _, _, _⟩⟩ => z0
theorem fieldAt1_any (z0 : ByteArray) (z1 : ByteArray) (z2 : Bool) (z3 : Int) (z4 : Int) (z5 : ByteArray) (z6 : Int) (z7 : List FEntry) (Az7 : Option Addr) (cz7 : Nat) (s : ByteArray) (b : Nat) (w : World) (hb : b < w.heap.size) (hc : w.cell? ⟨b, 0, none⟩ = some (.string s)) :
  Calls Tryz.prog 138 #[.agg #[.string z0, .string z1, .bool z2, .int .i64 z3, .int .i64 z4, .string z5, .int .i64 z6, .slice Az7 z7.length cz7], .pointer (some ⟨b, 0, none⟩)] w fun e w' => e = .returned (.bool (z0.toList == s.toList)) ∧ Below w.heap.size w w' := by
 go_enter Tryz.func138, Tryz.ntmps138
 go_wp2_with fail
 go_ret
 exact ⟨rfl, (Below.refl _ _).alloc nr _⟩
theorem indexField_any (l : List FField) (s : ByteArray) (u : Value) (b : Nat) (w : World) (hl : l.length ≤ 1000000000) {B : Nat} (hB0 : B ≤ w.heap.size) (hb0 : b < w.heap.size) (hc : w.cell? ⟨b, 0, none⟩ = some (.string s)) (hr0 : RdC w B (.s 79 8 l.length (FField.flat l)) u) :
  Calls Tryz.prog 137 #[u, .func (Fn.func 138) #[] #[.pointer (some ⟨b, 0, none⟩)]] w fun e w' => e = .returned (.int .i64 (fidx FField.nm l s)) ∧ Below w.heap.size w w' := by
 have hr := hr0.up hB0
 clear hr0
 obtain ⟨A, c, rfl⟩ := hr.form
 have HC := hid hr
 have hn : l.length ≤ 9223372036854775807 := qaa
 have HCC := hid hc
 clear hr hc
 go_enter Tryz.func137, Tryz.ntmps137
 go_wp2_with fail
 go_loopw [8] (fun i wr => ∃ k : Nat, k ≤ l.length ∧ i = .int .i64 k ∧ (∀ (j : Nat) (y : FField), j < k → l[j]? = some y → ((FField.nm y).toList == s.toList) = false) ∧ Below w.heap.size w wr) (fun i _ => l.length - (intOf i).toNat)
 case atStart => exact zz113
 case round =>
  obtain ⟨k, hk, rfl, hno, hb⟩ := hrel
  have HNO := hid hno
  clear hno
  by_cases hlt : k < l.length
  ·obtain ⟨x, hx⟩ : ∃ x, l[k]? = some x := ⟨_, List.getElem?_eq_getElem hlt⟩
   obtain ⟨bc, offc, rfl, hblc, hcc⟩ := RdC.at_ FField.len HC.out hx
   have HX := hid hx
   have hbs := hb.size
   have HS := hid ((hb.cell (p := ⟨b, 0, none⟩) hb0).trans HCC.out)
   clear hx
   obtain ⟨z0, z1, z2, ⟨z3, z4, z5, z6, z7⟩⟩ := x
   rw [FField.c_eq] at hcc
   obtain ⟨u0, e0, q0⟩ := hcc 0 _ rfl
   obtain rfl := q0.val
   have kz_0 : wr.cell? ⟨bc, offc + k * 8, none⟩ = some (.string z0) := (hb.cell (p := ⟨bc, _, none⟩) hblc).trans qa3
   obtain ⟨u1, e1, q1⟩ := hcc 1 _ rfl
   obtain rfl := q1.val
   have kz_1 : wr.cell? ⟨bc, offc + k * 8 + 1, none⟩ = some (.string z1) := (hb.cell (p := ⟨bc, _, none⟩) hblc).trans qa4
   obtain ⟨u2, e2, q2⟩ := hcc 2 _ rfl
   obtain rfl := q2.val
   have kz_2 : wr.cell? ⟨bc, offc + k * 8 + 2, none⟩ = some (.bool z2) := (hb.cell (p := ⟨bc, _, none⟩) hblc).trans qa5
   obtain ⟨u3, e3, q3⟩ := hcc 3 _ rfl
   obtain rfl := q3.val
   have kz_3 : wr.cell? ⟨bc, offc + k * 8 + 3, none⟩ = some (.int .i64 z3) := (hb.cell (p := ⟨bc, _, none⟩) hblc).trans qa6
   obtain ⟨u4, e4, q4⟩ := hcc 4 _ rfl
   obtain rfl := q4.val
   have kz_4 : wr.cell? ⟨bc, offc + k * 8 + 4, none⟩ = some (.int .i64 z4) := (hb.cell (p := ⟨bc, _, none⟩) hblc).trans qbn
   obtain ⟨u5, e5, q5⟩ := hcc 5 _ rfl
   obtain rfl := q5.val
   have kz_5 : wr.cell? ⟨bc, offc + k * 8 + 5, none⟩ = some (.string z5) := (hb.cell (p := ⟨bc, _, none⟩) hblc).trans (by simpa using e5)
   obtain ⟨u6, e6, q6⟩ := hcc 6 _ rfl
   obtain rfl := q6.val
   have kz_6 : wr.cell? ⟨bc, offc + k * 8 + 6, none⟩ = some (.int .i64 z6) := (hb.cell (p := ⟨bc, _, none⟩) hblc).trans (by simpa using e6)
   obtain ⟨u7, e7, q7⟩ := hcc 7 _ rfl
   obtain ⟨Az7, cz7, rfl⟩ := q7.form
   have Qz7 := hid q7
   have kz_7 : wr.cell? ⟨bc, offc + k * 8 + 7, none⟩ = some (.slice Az7 z7.length cz7) := (hb.cell (p := ⟨bc, _, none⟩) hblc).trans (by simpa using e7)
   clear hcc e0 q0 e1 q1 e2 q2 e3 q3 e4 q4 e5 q5 e6 q6 e7 q7
   go_wp2_with fail
   refine (fieldAt1_any z0 z1 z2 z3 z4 z5 z6 z7 _ _ s b _ qaa HS.out).mono ?_
   exact zz182
  ·exact zz40
theorem fieldAt_any (l : List FField) (s : ByteArray) (u : Value) (w : World) (hl : l.length ≤ 1000000000) {B : Nat} (hB0 : B ≤ w.heap.size) (hr : RdC w B (.s 79 8 l.length (FField.flat l)) u) :
  Calls Tryz.prog 114 #[u, .string s] w fun e w' => e = .returned (.int .i64 (fidx FField.nm l s)) ∧ Below w.heap.size w w' := by
 have HR := hid hr
 clear hr
 go_enter Tryz.func114, Tryz.ntmps114
 go_wp2_with fail
 refine (indexField_any l s u _ _ hl (B := B) qak qag (World.cell?_alloc_new _ _ _ _) (HR.out.below ((Below.refl _ _).alloc nr _) hB0)).mono ?_
 rintro e w2 ⟨rfl, hb2⟩
 go_wp2_with fail
 go_ret
 exact ⟨rfl, ((Below.refl _ _).alloc nr _).trans (hb2.mono qag)⟩
def FUnit.nm : FUnit → ByteArray
 | ⟨z0, ⟨_, _, _, _⟩⟩ => z0
theorem FindUnit_spec (l : List FUnit) (s : ByteArray) (u : Value) (w : World) (hl : l.length ≤ 1000000000) {B : Nat} (hB0 : B ≤ w.heap.size) (hr0 : RdC w B (.s 46 5 l.length (FUnit.flat l)) u) :
  Calls Tryz.prog 15 #[u, .string s] w fun e w' => e = .returned (.int .i64 (fidx FUnit.nm l s)) ∧ Below w.heap.size w w' := by
 have hr := hr0.up hB0
 clear hr0
 obtain ⟨A, c, rfl⟩ := hr.form
 have HC := hid hr
 have hn : l.length ≤ 9223372036854775807 := qaa
 clear hr
 go_enter Tryz.func15, Tryz.ntmps15
 go_wp2_with fail
 go_loopw [5] (fun i wr => ∃ k : Nat, k ≤ l.length ∧ i = .int .i64 k ∧ (∀ (j : Nat) (y : FUnit), j < k → l[j]? = some y → ((FUnit.nm y).toList == s.toList) = false) ∧ Below w.heap.size w wr) (fun i _ => l.length - (intOf i).toNat)
 case atStart => exact zz113
 case round =>
  obtain ⟨k, hk, rfl, hno, hb⟩ := hrel
  have HNO := hid hno
  clear hno
  by_cases hlt : k < l.length
  ·obtain ⟨x, hx⟩ : ∃ x, l[k]? = some x := ⟨_, List.getElem?_eq_getElem hlt⟩
   obtain ⟨bc, offc, rfl, hblc, hcc⟩ := RdC.at_ FUnit.len HC.out hx
   have HX := hid hx
   have hbs := hb.size
   clear hx
   obtain ⟨z0, ⟨z1, z2, z3, z4⟩⟩ := x
   rw [FUnit.c_eq] at hcc
   obtain ⟨u0, e0, q0⟩ := hcc 0 _ rfl
   obtain rfl := q0.val
   clear q0
   have c_0 : wr.cell? ⟨bc, offc + k * 5, none⟩ = some (.string z0) := (hb.cell (p := ⟨bc, _, none⟩) hblc).trans qa3
   obtain ⟨u1, e1, q1⟩ := hcc 1 _ rfl
   obtain rfl := q1.val
   clear q1
   have c_1 : wr.cell? ⟨bc, offc + k * 5 + 1, none⟩ = some (.int .i64 z1) := (hb.cell (p := ⟨bc, _, none⟩) hblc).trans qa4
   obtain ⟨u2, e2, q2⟩ := hcc 2 _ rfl
   obtain rfl := q2.val
   clear q2
   have c_2 : wr.cell? ⟨bc, offc + k * 5 + 2, none⟩ = some (.int .i64 z2) := (hb.cell (p := ⟨bc, _, none⟩) hblc).trans qa5
   obtain ⟨u3, e3, q3⟩ := hcc 3 _ rfl
   obtain rfl := q3.val
   clear q3
   have c_3 : wr.cell? ⟨bc, offc + k * 5 + 3, none⟩ = some (.string z3) := (hb.cell (p := ⟨bc, _, none⟩) hblc).trans qa6
   obtain ⟨u4, e4, q4⟩ := hcc 4 _ rfl
   obtain ⟨A4, c4, rfl⟩ := q4.form
   clear q4
   have c_4 : wr.cell? ⟨bc, offc + k * 5 + 4, none⟩ = some (.slice A4 z4.length c4) := (hb.cell (p := ⟨bc, _, none⟩) hblc).trans qbn
   clear hcc e0 e1 e2 e3 e4
   exact zz187
  ·exact zz40
theorem FindUnit_impl (l : List FUnit) (s : ByteArray) (u : Value) (w : World) (hl : l.length ≤ 1000000000) {B : Nat} (hB0 : B ≤ w.heap.size) (hr0 : RdC w B (.s 46 5 l.length (FUnit.flat l)) u) :
  Calls Tryz.prog 20 #[u, .string s] w fun e w' => e = .returned (.int .i64 (fidx FUnit.nm l s)) ∧ Below w.heap.size w w' := by
 have hr := hr0.up hB0
 clear hr0
 obtain ⟨A, c, rfl⟩ := hr.form
 have HC := hid hr
 have hn : l.length ≤ 9223372036854775807 := qaa
 clear hr
 go_enter Tryz.func20, Tryz.ntmps20
 go_wp2_with fail
 go_loopw [9] (fun i wr => ∃ k : Nat, k ≤ l.length ∧ i = .int .i64 k ∧ (∀ (j : Nat) (y : FUnit), j < k → l[j]? = some y → ((FUnit.nm y).toList == s.toList) = false) ∧ Below w.heap.size w wr) (fun i _ => l.length - (intOf i).toNat)
 case atStart => exact zz113
 case round =>
  obtain ⟨k, hk, rfl, hno, hb⟩ := hrel
  have HNO := hid hno
  clear hno
  by_cases hlt : k < l.length
  ·obtain ⟨x, hx⟩ : ∃ x, l[k]? = some x := ⟨_, List.getElem?_eq_getElem hlt⟩
   obtain ⟨bc, offc, rfl, hblc, hcc⟩ := RdC.at_ FUnit.len HC.out hx
   have HX := hid hx
   have hbs := hb.size
   clear hx
   obtain ⟨z0, ⟨z1, z2, z3, z4⟩⟩ := x
   rw [FUnit.c_eq] at hcc
   obtain ⟨u0, e0, q0⟩ := hcc 0 _ rfl
   obtain rfl := q0.val
   clear q0
   have c_0 : wr.cell? ⟨bc, offc + k * 5, none⟩ = some (.string z0) := (hb.cell (p := ⟨bc, _, none⟩) hblc).trans qa3
   obtain ⟨u1, e1, q1⟩ := hcc 1 _ rfl
   obtain rfl := q1.val
   clear q1
   have c_1 : wr.cell? ⟨bc, offc + k * 5 + 1, none⟩ = some (.int .i64 z1) := (hb.cell (p := ⟨bc, _, none⟩) hblc).trans qa4
   obtain ⟨u2, e2, q2⟩ := hcc 2 _ rfl
   obtain rfl := q2.val
   clear q2
   have c_2 : wr.cell? ⟨bc, offc + k * 5 + 2, none⟩ = some (.int .i64 z2) := (hb.cell (p := ⟨bc, _, none⟩) hblc).trans qa5
   obtain ⟨u3, e3, q3⟩ := hcc 3 _ rfl
   obtain rfl := q3.val
   clear q3
   have c_3 : wr.cell? ⟨bc, offc + k * 5 + 3, none⟩ = some (.string z3) := (hb.cell (p := ⟨bc, _, none⟩) hblc).trans qa6
   obtain ⟨u4, e4, q4⟩ := hcc 4 _ rfl
   obtain ⟨A4, c4, rfl⟩ := q4.form
   clear q4
   have c_4 : wr.cell? ⟨bc, offc + k * 5 + 4, none⟩ = some (.slice A4 z4.length c4) := (hb.cell (p := ⟨bc, _, none⟩) hblc).trans qbn
   clear hcc e0 e1 e2 e3 e4
   exact zz186
  ·exact zz40
end Go.Proofs.YtkkjnfappndmpaaGreatDoor
