/-
  What InsName returns, in both packages; l1Word, knownOp. Conditions: none; the program's needs the table strings.asciiSpace.
-/
import Derived.Test.YtiggmjiodbbceaaDoorTab
import Derived.Test.YtiggmjiodbbceaaDoorStr
import Derived.Ground.NamesProg
import Derived.Shelf.Lay
import Derived.Shelf.LaysM
import Derived.Shelf.Strings.SplitShaped
import Derived.WalkSmall
namespace Go.Proofs.YtiggmjiodbbceaaDoor
open Go.ChangeShapes Go.WideShapes Go.ChangeAt Go.RowKit Go.Deep Go.Joins Go.Shelf
open Go.ChangeMaps (open_string shut_string)
set_option linter.unusedVariables false
set_option linter.unusedSimpArgs false
set_option maxRecDepth 100000
/-- The names of the instructions 1 to 56, as bytes. -/
def insWords : List (List UInt8) := [
  [110, 111, 112],
  [105, 110, 116],
  [116, 101, 120, 116],
  [99, 111, 110, 115, 116],
  [108, 111, 97, 100],
  [115, 116, 111, 114, 101],
  [108, 111, 97, 100, 103],
  [115, 116, 111, 114, 101, 103],
  [116, 104, 105, 115],
  [112, 111, 112],
  [117, 110, 97, 114, 121],
  [98, 105, 110, 97, 114, 121],
  [98, 111, 111, 108],
  [97, 114, 114, 97, 121],
  [105, 116, 101, 109],
  [105, 110, 100, 101, 120],
  [112, 114, 111, 112],
  [115, 101, 116],
  [115, 101, 116, 103],
  [115, 101, 116, 112],
  [117, 110, 115, 101, 116],
  [117, 110, 115, 101, 116, 103],
  [117, 110, 115, 101, 116, 112],
  [97, 108, 105, 97, 115],
  [97, 108, 105, 97, 115, 103],
  [103, 108, 111, 98, 97, 108],
  [106, 117, 109, 112],
  [106, 117, 109, 112, 110, 111, 116],
  [106, 117, 109, 112, 115, 101, 116],
  [101, 99, 104, 111],
  [105, 110, 108, 105, 110, 101],
  [105, 110, 105, 116],
  [105, 110, 105, 116, 118, 97, 108, 117, 101],
  [105, 110, 105, 116, 109, 101, 116, 104, 111, 100],
  [105, 110, 105, 116, 115, 116, 97, 116, 105, 99],
  [105, 110, 105, 116, 110, 101, 119],
  [115, 101, 110, 100],
  [115, 101, 110, 100, 118, 97, 114],
  [115, 101, 110, 100, 118, 97, 114, 103],
  [99, 97, 108, 108],
  [115, 101, 110, 100, 103, 101, 110],
  [114, 101, 116, 117, 114, 110],
  [116, 104, 114, 111, 119],
  [116, 114, 121, 99, 97, 116, 99, 104],
  [116, 114, 121, 102, 105, 110, 97, 108, 108, 121],
  [101, 110, 100, 116, 114, 121],
  [101, 110, 116, 101, 114, 102, 105, 110, 97, 108, 108, 121],
  [101, 110, 100, 102, 105, 110, 97, 108, 108, 121],
  [108, 101, 97, 118, 101],
  [105, 116, 101, 114],
  [97, 100, 118, 97, 110, 99, 101],
  [110, 101, 120, 116],
  [101, 110, 100, 105, 116, 101, 114],
  [121, 105, 101, 108, 100],
  [105, 110, 99, 108, 117, 100, 101],
  [99, 108, 111, 115, 117, 114, 101]]
def insFlat : List UInt8 := ((insWords.map fun l => 32 :: l).flatten).drop 1
def insStr (k : Nat) : ByteArray := ⟨(insWords.getD k []).toArray⟩
def insNm (op : Int) : ByteArray := if 1 ≤ op ∧ op ≤ 56 then insStr (op.toNat - 1) else ByteArray.empty
theorem insWords_len : insWords.length = 56 := rfl
theorem insFlat_fields : Lib.fields insFlat = insWords := by kernel_rfl
theorem insFlat_low : (insFlat.all fun b => decide (b.toNat < 128)) = true := by kernel_rfl
theorem insFlat_len : insFlat.length = 376 := by kernel_rfl
def insTbl : Array Value := (insWords.map fun l => Value.string ⟨l.toArray⟩).toArray
theorem insTbl_at (k : Nat) (h : k < 56) : insTbl[k]? = some (.string (insStr k)) := by
  have h' : k < insWords.length := by rw [insWords_len]; exact h
  unfold insTbl insStr
  rw [List.getElem?_toArray, List.getElem?_map, List.getElem?_eq_getElem h', List.getD_eq_getElem?_getD, List.getElem?_eq_getElem h']
  rfl
def laysFields_ren : Go.Shelf.Ren := ⟨fun | 157 => 29 | 229 => 58 | 199 => 59 | 261 => 74 | 311 => 80 | 312 => 81 | n => n, fun | 9 => 9 | 31 => 39 | 3 => 3 | 5 => 5 | 4 => 4 | 119 => 79 | 0 => 0 | 40 => 81 | 152 => 95 | 21 => 21 | 154 => 97 | 51 => 98 | 141 => 100 | 196 => 111 | 193 => 108 | 198 => 114 | 49 => 112 | 194 => 109 | 201 => 117 | 226 => 121 | 46 => 103 | 227 => 122 | n => n, fun | 0 => 0 | 6 => 1 | n => n⟩
theorem laysFields : Go.Proofs.LaysM.n157 Tryd.prog laysFields_ren := {
  mixed := by kernel_rfl
  f157 := Tryd.func29.trans (congrArg some (by kernel_rfl))
  f199 := Tryd.func59.trans (congrArg some (by kernel_rfl))
  f229 := Tryd.func58.trans (congrArg some (by kernel_rfl))
  f261 := Tryd.func74.trans (congrArg some (by kernel_rfl))
  f311 := Tryd.func80.trans (congrArg some (by kernel_rfl))
  f312 := Tryd.func81.trans (congrArg some (by kernel_rfl))
  t0 := Tryd.underlying0
  a0 := Tryd.isAgg0
  z0 := Tryd.sizeOf0
  v0 := Tryd.zeroValue0
  t3 := Tryd.underlying3
  a3 := Tryd.isAgg3
  z3 := Tryd.sizeOf3
  v3 := Tryd.zeroValue3
  t4 := Tryd.underlying4
  a4 := Tryd.isAgg4
  z4 := Tryd.sizeOf4
  v4 := Tryd.zeroValue4
  t5 := Tryd.underlying5
  a5 := Tryd.isAgg5
  z5 := Tryd.sizeOf5
  v5 := Tryd.zeroValue5
  t9 := Tryd.underlying9
  a9 := Tryd.isAgg9
  z9 := Tryd.sizeOf9
  v9 := Tryd.zeroValue9
  t21 := Tryd.underlying21
  a21 := Tryd.isAgg21
  z21 := Tryd.sizeOf21
  v21 := Tryd.zeroValue21
  t31 := Tryd.underlying39
  a31 := Tryd.isAgg39
  z31 := Tryd.sizeOf39
  v31 := Tryd.zeroValue39
  t40 := Tryd.underlying81
  a40 := Tryd.isAgg81
  z40 := Tryd.sizeOf81
  v40 := Tryd.zeroValue81
  t46 := Tryd.underlying103
  a46 := Tryd.isAgg103
  z46 := Tryd.sizeOf103
  v46 := Tryd.zeroValue103
  t49 := Tryd.underlying112
  a49 := Tryd.isAgg112
  z49 := Tryd.sizeOf112
  v49 := Tryd.zeroValue112
  t51 := Tryd.underlying98
  a51 := Tryd.isAgg98
  z51 := Tryd.sizeOf98
  v51 := Tryd.zeroValue98
  t119 := Tryd.underlying79
  a119 := Tryd.isAgg79
  z119 := Tryd.sizeOf79
  t141 := Tryd.underlying100
  a141 := Tryd.isAgg100
  z141 := Tryd.sizeOf100
  v141 := Tryd.zeroValue100
  t152 := Tryd.underlying95
  a152 := Tryd.isAgg95
  z152 := Tryd.sizeOf95
  v152 := Tryd.zeroValue95
  t154 := Tryd.underlying97
  a154 := Tryd.isAgg97
  z154 := Tryd.sizeOf97
  v154 := Tryd.zeroValue97
  t193 := Tryd.underlying108
  a193 := Tryd.isAgg108
  z193 := Tryd.sizeOf108
  v193 := Tryd.zeroValue108
  t194 := Tryd.underlying109
  a194 := Tryd.isAgg109
  z194 := Tryd.sizeOf109
  v194 := Tryd.zeroValue109
  t196 := Tryd.underlying111
  a196 := Tryd.isAgg111
  z196 := Tryd.sizeOf111
  v196 := Tryd.zeroValue111
  t198 := Tryd.underlying114
  a198 := Tryd.isAgg114
  z198 := Tryd.sizeOf114
  v198 := Tryd.zeroValue114
  t201 := Tryd.underlying117
  a201 := Tryd.isAgg117
  z201 := Tryd.sizeOf117
  v201 := Tryd.zeroValue117
  t226 := Tryd.underlying121
  a226 := Tryd.isAgg121
  z226 := Tryd.sizeOf121
  v226 := Tryd.zeroValue121
  t227 := Tryd.underlying122
  a227 := Tryd.isAgg122
  z227 := Tryd.sizeOf122
  v227 := Tryd.zeroValue122
  g0 := by kernel_rfl
  g6 := by kernel_rfl
  i0 := by kernel_rfl
  i3 := by kernel_rfl
  i4 := by kernel_rfl
  i5 := by kernel_rfl
  i9 := by kernel_rfl
  i21 := by kernel_rfl
  i31 := by kernel_rfl
  i40 := by kernel_rfl
  i46 := by kernel_rfl
  i49 := by kernel_rfl
  i51 := by kernel_rfl
  i141 := by kernel_rfl
  i152 := by kernel_rfl
  i154 := by kernel_rfl
  i193 := by kernel_rfl
  i194 := by kernel_rfl
  i196 := by kernel_rfl
  i198 := by kernel_rfl
  i201 := by kernel_rfl
  i226 := by kernel_rfl
  i227 := by kernel_rfl
  m0 := by kernel_rfl
  m6 := by kernel_rfl }
theorem fieldsC (C : ByteArray) (hC : C.data.toList = insFlat) (w : World) (hT : TabA w) : Calls Tryd.prog 29 #[.string C] w fun e w' => e = .returned (.slice (some ⟨w.heap.size, 0, none⟩) 56 56) ∧ w' = w.alloc (.cells insTbl 9) := by
  have hs : C.size < 4294967281 := by
    have : C.size = C.data.toList.length := by simp
    rw [this, hC, insFlat_len]; decide
  have h := Any.strings_Fields_laid laysFields C w hs (fun j b hb => by rw [hC] at hb; have := List.all_eq_true.1 insFlat_low b (List.mem_of_getElem? hb); simpa using this) hT
  rw [hC, insFlat_fields] at h
  exact h
theorem knownOp_any (op : Int) (w : World) : Calls Tryd.prog 28 #[.int .i64 op] w fun e w' => e = .returned (.bool (inB op 1 56)) ∧ w = w' := by
  go_enter Tryd.func28, Tryd.ntmps28
  go_wp2_with (go_at_call 57; refine (inRange_any _ _ _ _).mono ?_; rintro e w' ⟨rfl, rfl⟩)
  go_ret
  exact ⟨rfl, rfl⟩
theorem l1Word_any (A n : Nat) (c : Nat) (f : Nat → ByteArray) (w : World) (hn : n ≤ 9223372036854775807) (hc : ∀ k, k < n → w.cell? ⟨A, k, none⟩ = some (.string (f k))) (x : Int) :
    Calls Tryd.prog 27 #[.slice (some ⟨A, 0, none⟩) n c, .int .i64 x] w fun e w' => e = .returned (.string (if 0 ≤ x ∧ x < n then f x.toNat else ByteArray.empty)) ∧ w = w' := by
  by_cases h : 0 ≤ x ∧ x < n
  · obtain ⟨k, rfl⟩ : ∃ k : Nat, x = k := ⟨x.toNat, by omega⟩
    have hk : k < n := by omega
    have hck := hc k hk
    have hb : inB (k : Int) 0 ((n : Int) - 1) = true := by unfold inB; simp; omega
    clear hc
    go_enter Tryd.func27, Tryd.ntmps27
    go_wp2_with (go_at_call 32; refine (l1In_any _ _ _ _).mono ?_; rw [hb]; rintro e w' ⟨rfl, rfl⟩)
    go_ret
    exact ⟨rfl, rfl⟩
  · have hb : inB x 0 ((n : Int) - 1) = false := by unfold inB; simp; omega
    clear hc
    go_enter Tryd.func27, Tryd.ntmps27
    go_wp2_with (go_at_call 32; refine (l1In_any _ _ _ _).mono ?_; rw [hb]; rintro e w' ⟨rfl, rfl⟩)
    go_ret
    exact ⟨rfl, rfl⟩
theorem InsName_impl (op : Int) (w : World) (hT : TabA w) : Calls Tryd.prog 8 #[.int .i64 op] w fun e w' => e = .returned (.string (insNm op)) ∧ Below w.heap.size w w' := by
  by_cases h : 1 ≤ op ∧ op ≤ 56
  · obtain ⟨k, rfl⟩ : ∃ k : Nat, op = (k : Int) + 1 := ⟨(op - 1).toNat, by omega⟩
    have hk : k < 56 := by omega
    have hb : inB ((k : Int) + 1) 1 56 = true := by unfold inB; simp; omega
    have hr : insNm ((k : Int) + 1) = insStr k := by unfold insNm; rw [if_pos h]; congr 1
    have HT := Lib.hid hT
    clear hT
    have ht := insTbl_at k hk
    rw [hr]
    clear hr
    go_enter Tryd.func8, Tryd.ntmps8
    go_wp2_with (first | (go_at_call 28; refine (knownOp_any _ _).mono ?_; rw [hb]; rintro e w' ⟨rfl, rfl⟩) | (go_at_call 29; refine (fieldsC _ (by kernel_rfl) _ HT.out).mono ?_; rintro e w' ⟨rfl, rfl⟩))
    go_ret
    exact ⟨rfl, (Below.refl _ _).alloc (Nat.le_refl _) _⟩
  · have hb : inB op 1 56 = false := by unfold inB; simp; omega
    have hr : insNm op = ByteArray.empty := by unfold insNm; rw [if_neg h]
    rw [hr]
    clear hT hr
    go_enter Tryd.func8, Tryd.ntmps8
    go_wp2_with (go_at_call 28; refine (knownOp_any _ _).mono ?_; rw [hb]; rintro e w' ⟨rfl, rfl⟩)
    go_ret
    exact ⟨rfl, Below.refl _ _⟩
def insTbl0 : Array Value := (.string ByteArray.empty :: insWords.map fun l => Value.string ⟨l.toArray⟩).toArray
theorem insTbl0_at (k : Nat) (h : k < 57) : insTbl0[k]? = some (.string (insNm k)) := by
  cases k with
  | zero => rfl
  | succ k =>
    have := insTbl_at k (by omega)
    unfold insTbl at this
    unfold insTbl0 insNm
    rw [if_pos (by omega)]
    rw [List.getElem?_toArray] at this ⊢
    exact this
theorem InsName_spec (op : Int) (w : World) : Calls Tryd.prog 7 #[.int .i64 op] w fun e w' => e = .returned (.string (insNm op)) ∧ Below w.heap.size w w' := by
  have hr : (if 0 ≤ op ∧ op < (57 : Nat) then insNm op.toNat else ByteArray.empty) = insNm op := by
    by_cases h : 0 ≤ op ∧ op < (57 : Nat)
    · rw [if_pos h]; congr 1; omega
    · rw [if_neg h]; unfold insNm; rw [if_neg (by omega)]
  have HR := Lib.hid hr
  clear hr
  go_enter Tryd.func7, Tryd.ntmps7
  go_wp2_with (go_at_call 27; refine (l1Word_any w.heap.size 57 _ (fun k => insNm k) _ (by decide) (fun k hk => (World.cell?_alloc_at _ _ _ _ rfl).trans (insTbl0_at k hk)) op).mono ?_; rw [HR.out]; rintro e w' ⟨rfl, rfl⟩)
  go_ret
  exact ⟨rfl, (Below.refl _ _).alloc (Nat.le_refl _) _⟩
end Go.Proofs.YtiggmjiodbbceaaDoor
