/-
 Parts of the proof: PthA, PthB, PthC, PthI. Conditions: none.
-/
import Derived.Test.YtkkjnfappndmpaaGreatDoorQFold
import Derived.Test.YtkkjnfappndmpaaGreatDoorQad
import Derived.Lib.SplitLaws
import Derived.Test.YtkkjnfappndmpaaGreatDoorQaa
import Derived.Ground.NamesProg
import Derived.Shelf.Lay
import Derived.Shelf.LaysM
import Derived.Shelf.Strings.Split
import Derived.WalkSmall
import Derived.Deep.DeepMust
set_option linter.unusedVariables false
set_option linter.unusedSimpArgs false
namespace Go.Proofs.YtkkjnfappndmpaaGreatDoor
open Go.ChangeShapes Go.WideShapes Go.ChangeAt Go.RowKit Go.Deep Go.Joins
def slash : ByteArray := ⟨#[47]⟩
theorem slash_size : slash.size = 1 := rfl
theorem slash_list : slash.data.toList = [47] := rfl
/-- The pieces of s from a on. -/
def pcs (s : ByteArray) (a : Nat) : List ByteArray := Lib.splitB slash 0 (Lib.countB (s.extract a s.size) slash) (s.extract a s.size)
theorem occ_one (l : List UInt8) (j : Nat) : Lib.occAt l [47] j = (l[j]? == some 47) := by
 unfold Lib.occAt
 rw [← List.head?_drop]
 cases l.drop j with
 | nil => rfl
 | cons x r =>
  simp only [List.isPrefixOf_cons_cons, List.isPrefixOf_nil_left, Bool.and_true, List.head?_cons]
  by_cases h : x = 47
  ·subst h; rfl
  ·have h1 : ((47 : UInt8) == x) = false := by rw [beq_eq_false_iff_ne]; exact fun e => h e.symm
   have h2 : (some x == some (47 : UInt8)) = false := by rw [beq_eq_false_iff_ne]; exact fun e => h (Option.some.inj e)
   rw [h1, h2]
theorem ext_list (s : ByteArray) (a b : Nat) : (s.extract a b).data.toList = (s.data.toList.take b).drop a := by
 rw [ByteArray.data_extract, Array.toList_extract]
 simp [List.extract, List.drop_take]
theorem ext_end (s : ByteArray) (a : Nat) : (s.extract a s.size).data.toList = s.data.toList.drop a := by
 rw [ext_list, List.take_of_length_le (by rw [← Lib.size_eq]; exact Nat.le_refl _)]
theorem ba_ext {a b : ByteArray} (h : a.data.toList = b.data.toList) : a = b := by
 obtain ⟨⟨x⟩⟩ := a
 obtain ⟨⟨y⟩⟩ := b
 simp at h
 subst h
 rfl
theorem getD_b (s : ByteArray) (k : Nat) (h : k < s.size) : s.data.toList[k]? = some (s[k]'h) := by
 rw [List.getElem?_eq_getElem (by rw [← Lib.size_eq]; exact h)]
 rfl
theorem pcs_hit (s : ByteArray) (a i : Nat) (hai : a ≤ i) (hi : i < s.size) (hno : ∀ j, a ≤ j → j < i → s.data.toList[j]? ≠ some 47) (hs : s.data.toList[i]? = some 47) : pcs s a = s.extract a i :: pcs s (i + 1) := by
 have hix : Lib.indexB (s.extract a s.size) slash = ((i - a : Nat) : Int) := by
  show Lib.index (s.extract a s.size).data.toList slash.data.toList = _
  rw [ext_end, slash_list]
  refine Lib.index_hit (fun j hj => ?_) ?_ ?_
  ·rw [occ_one, List.getElem?_drop]
   exact beq_eq_false_iff_ne.2 (hno (a + j) qaa qaa)
  ·rw [List.length_drop, ← Lib.size_eq]; omega
  ·rw [occ_one, List.getElem?_drop, show a + (i - a) = i by omega, hs]; rfl
 have e1 : (s.extract a s.size).extract ((i - a) + slash.size) (s.extract a s.size).size = s.extract (i + 1) s.size := by
  apply ba_ext
  rw [ext_end, ext_end, ext_end, List.drop_drop, slash_size, show a + (i - a + 1) = i + 1 by omega]
 have e2 : (s.extract a s.size).extract 0 ((i - a) + 0) = s.extract a i := by
  apply ba_ext
  rw [ext_list, ext_end, ext_list, List.drop_zero, Nat.add_zero, List.drop_take]
 unfold pcs
 rw [Lib.countB_hit _ slash (i - a) qbt hix, Nat.add_comm 1, Lib.splitB_hit _ _ _ _ _ hix, e1, e2]
theorem pcs_end (s : ByteArray) (a : Nat) (ha : a ≤ s.size) (hno : ∀ j, a ≤ j → j < s.size → s.data.toList[j]? ≠ some 47) : pcs s a = [s.extract a s.size] := by
 have hix : Lib.indexB (s.extract a s.size) slash = -1 := by
  show Lib.index (s.extract a s.size).data.toList slash.data.toList = _
  rw [ext_end, slash_list]
  refine Lib.index_none fun j hj => ?_
  rw [occ_one, List.getElem?_drop]
  refine beq_eq_false_iff_ne.2 fun h => ?_
  have hj2 : a + j < s.size := by
   have := (List.getElem?_eq_some_iff.1 h).1
   rwa [← Lib.size_eq] at this
  exact hno (a + j) qaa hj2 h
 unfold pcs
 exact Lib.splitB_miss _ _ _ _ hix
/-! ### what is made of the pieces -/
def ptP (s : ByteArray) (k : Nat) : Bool := ltrI (bI s k) || (digI (bI s k) || (bI s k == 95 || (bI s k == 45 || bI s k == 46)))
def partF (s : ByteArray) : Bool := decide (s.size ≤ 20) && allB (ptP s) s.size
def dotL : List UInt8 := [46]
def upL : List UInt8 := [46, 46]
def foldP : List ByteArray → List ByteArray → Option (List ByteArray)
 | [], acc => some acc
 | p :: r, acc =>
  if (p.toList == ([] : List UInt8)) = true then foldP r acc
  else if (p.toList == dotL) = true then foldP r acc
  else if (p.toList == upL) = true then (if acc.length = 0 then none else foldP r acc.dropLast)
  else if partF p = true then foldP r (acc ++ [p])
  else none
section
variable {p : ByteArray} {r acc : List ByteArray}
theorem fold_e (h : (p.toList == ([] : List UInt8)) = true) : foldP (p :: r) acc = foldP r acc := by rw [foldP, if_pos h]
theorem fold_d (h0 : (p.toList == ([] : List UInt8)) = false) (h : (p.toList == dotL) = true) : foldP (p :: r) acc = foldP r acc := by rw [foldP, if_neg (by rw [h0]; simp), if_pos h]
theorem fold_u0 (h0 : (p.toList == ([] : List UInt8)) = false) (h1 : (p.toList == dotL) = false) (h : (p.toList == upL) = true) (hz : acc.length = 0) : foldP (p :: r) acc = none := by
 rw [foldP, if_neg (by rw [h0]; simp), if_neg (by rw [h1]; simp), if_pos h, if_pos hz]
theorem fold_u (h0 : (p.toList == ([] : List UInt8)) = false) (h1 : (p.toList == dotL) = false) (h : (p.toList == upL) = true) (hz : acc.length ≠ 0) : foldP (p :: r) acc = foldP r acc.dropLast := by
 rw [foldP, if_neg (by rw [h0]; simp), if_neg (by rw [h1]; simp), if_pos h, if_neg hz]
theorem fold_p (h0 : (p.toList == ([] : List UInt8)) = false) (h1 : (p.toList == dotL) = false) (h2 : (p.toList == upL) = false) (h : partF p = true) : foldP (p :: r) acc = foldP r (acc ++ [p]) := by
 rw [foldP, if_neg (by rw [h0]; simp), if_neg (by rw [h1]; simp), if_neg (by rw [h2]; simp), if_pos h]
theorem fold_n (h0 : (p.toList == ([] : List UInt8)) = false) (h1 : (p.toList == dotL) = false) (h2 : (p.toList == upL) = false) (h : partF p = false) : foldP (p :: r) acc = none := by
 rw [foldP, if_neg (by rw [h0]; simp), if_neg (by rw [h1]; simp), if_neg (by rw [h2]; simp), if_neg (by rw [h]; simp)]
end
/-- What is made of the pieces is short, and there is no more of it than there are pieces. -/
theorem fold_len : ∀ (r acc : List ByteArray) (V : List ByteArray), foldP r acc = some V → V.length ≤ acc.length + r.length ∧ ((∀ x ∈ acc, x.size ≤ 20) → ∀ x ∈ V, x.size ≤ 20)
 | [], acc, V, h => by
  rw [foldP] at h
  injection h with h
  subst h
  exact ⟨by simp, fun h => h⟩
 | p :: r, acc, V, h => by
  rw [foldP] at h
  split at h
  ·obtain ⟨h1, h2⟩ := fold_len r acc V h
   exact ⟨by rw [List.length_cons]; omega, h2⟩
  ·split at h
   ·obtain ⟨h1, h2⟩ := fold_len r acc V h
    exact ⟨by rw [List.length_cons]; omega, h2⟩
   ·split at h
    ·split at h
     ·cases h
     ·obtain ⟨h1, h2⟩ := fold_len r _ V h
      rw [List.length_dropLast] at h1
      exact ⟨by rw [List.length_cons]; omega, fun hx => h2 fun x hm => hx x (by rw [List.dropLast_eq_take] at hm; exact List.mem_of_mem_take hm)⟩
    ·split at h
     ·next hp =>
      obtain ⟨h1, h2⟩ := fold_len r _ V h
      rw [List.length_append] at h1
      refine ⟨by rw [List.length_cons]; simp at h1; omega, fun hx => h2 fun x hm => ?_⟩
      rcases List.mem_append.1 hm with hm | hm
      ·exact hx x hm
      ·obtain rfl := List.mem_singleton.1 hm
       unfold partF at hp
       simp only [Bool.and_eq_true, decide_eq_true_eq] at hp
       exact hp.1
     ·cases h
def spO (s : ByteArray) : Option (List ByteArray) := foldP (pcs s 0) []
def spV (s : ByteArray) : List ByteArray := (spO s).getD []
def spB (s : ByteArray) : Bool := (spO s).isSome
theorem sp_none {s : ByteArray} (h : spO s = none) : spV s = [] ∧ spB s = false := by unfold spV spB; rw [h]; exact ⟨rfl, rfl⟩
theorem sp_some {s : ByteArray} {V : List ByteArray} (h : spO s = some V) : spV s = V ∧ spB s = true := by unfold spV spB; rw [h]; exact ⟨rfl, rfl⟩
theorem pcs_len (s : ByteArray) : (pcs s 0).length ≤ s.size + 1 := by
 unfold pcs
 refine Nat.le_trans (Lib.splitB_length_le _ _ _ _) ?_
 have h := Lib.countB_le slash qbt _ (s.extract 0 s.size) nr
 have h2 : (s.extract 0 s.size).size ≤ s.size := by
  rw [Lib.size_eq, ext_end, Lib.size_eq, List.drop_zero]; exact Nat.le_refl _
 omega
theorem spV_len (s : ByteArray) : (spV s).length ≤ s.size + 1 ∧ ∀ x ∈ spV s, x.size ≤ 20 := by
 cases h : spO s with
 | none => rw [(sp_none h).1]; exact ⟨by simp, fun x hx => by cases hx⟩
 | some V =>
  rw [(sp_some h).1]
  obtain ⟨h1, h2⟩ := fold_len _ _ V h
  have := pcs_len s
  exact ⟨by simp at h1; omega, h2 fun x hx => by cases hx⟩
set_option maxHeartbeats 40000000
open Lib (hid)
open Go.ChangeMaps (open_string shut_string)
set_option maxRecDepth 100000
theorem part_impl (s : ByteArray) (w : World) (hs : s.size ≤ 9223372036854775807) : Calls Tryz.prog 98 #[.string s] w fun e w' => e = .returned (.bool (partF s)) ∧ w = w' := by
 go_enter Tryz.func98, Tryz.ntmps98
 go_wp2
 go_loop [3] (fun i => ∃ k : Nat, k ≤ s.size ∧ i = .int .i64 k ∧ ∀ j, j < k → ptP s j = true) (fun i => s.size - (intOf i).toNat)
 case atStart => exact ⟨0, Nat.zero_le _, rfl, fun j hj => absurd hj qaa⟩
 case round =>
  obtain ⟨k, hk, rfl, hall⟩ := hrel
  have HALL := hid hall
  clear hall
  by_cases hlt : k < s.size
  ·have hp : ptP s k = (ltrI (s[k].toNat : Int) || (digI (s[k].toNat : Int) || ((s[k].toNat : Int) == 95 || ((s[k].toNat : Int) == 45 || (s[k].toNat : Int) == 46)))) := by unfold ptP; rw [bI_eq s k hlt]
   have HP := hid hp
   clear hp
   have GO := hid (fun (h : ptP s k = true) => (fun j hj => (by
    by_cases e : j = k
    ·subst e; exact h
    ·exact HALL.out j qaa) : ∀ j, j < k + 1 → ptP s j = true))
   have hx0 : (0 : Int) ≤ (s[k].toNat : Int) := qaa
   have hx1 : (s[k].toNat : Int) ≤ 255 := by have := s[k].toNat_lt; omega
   have hd : decide ((k : Int) < (s.size : Int)) = true := by simpa using hlt
   have hd2 : decide (k < s.size) = true := by simpa using hlt
   cases hl : ltrI (s[k].toNat : Int) with
   | true =>
    have HT := hid (show ptP s k = true from by rw [HP.out, hl]; simp)
    exact zz36
   | false =>
   cases hg : digI (s[k].toNat : Int) with
   | true =>
    have HT := hid (show ptP s k = true from by rw [HP.out, hg]; simp)
    exact zz36
   | false =>
   cases h95 : ((s[k].toNat : Int) == 95) with
   | true =>
    have nh95 : ((s[k].toNat : Int) != 95) = false := by rw [bne, h95]; rfl
    have HT := hid (show ptP s k = true from by rw [HP.out, h95]; simp)
    exact zz36
   | false =>
   have nh95 : ((s[k].toNat : Int) != 95) = true := by rw [bne, h95]; rfl
   cases h45 : ((s[k].toNat : Int) == 45) with
   | true =>
    have nh45 : ((s[k].toNat : Int) != 45) = false := by rw [bne, h45]; rfl
    have HT := hid (show ptP s k = true from by rw [HP.out, h45]; simp)
    exact zz36
   | false =>
   have nh45 : ((s[k].toNat : Int) != 45) = true := by rw [bne, h45]; rfl
   cases h46 : ((s[k].toNat : Int) == 46) with
   | true =>
    have nh46 : ((s[k].toNat : Int) != 46) = false := by rw [bne, h46]; rfl
    have HT := hid (show ptP s k = true from by rw [HP.out, h46]; simp)
    exact zz36
   | false =>
   have nh46 : ((s[k].toNat : Int) != 46) = true := by rw [bne, h46]; rfl
   have HT := hid (show partF s = false from by unfold partF; rw [allB_false hlt (by rw [HP.out, hl, hg, h95, h45, h46]; rfl)]; simp)
   go_wp2_with (first | (go_at_call 127; refine zkp (isLetter_any _ _ qaa qaa) ?_) | (go_at_call 128; refine zkp (isDigit_any _ _ qaa qaa) ?_))
   go_ret
   exact ⟨ret_bool (by first | exact HT.out.symm | (rw [HT.out]; simp)), rfl⟩
  ·obtain rfl : k = s.size := qaa
   have hd : decide ((s.size : Int) < (s.size : Int)) = false := by simp
   have HT := hid (allB_true HALL.out)
   clear hlt
   go_wp2_with (first | (go_at_call 127; refine zkp (isLetter_any _ _ qaa qaa) ?_) | (go_at_call 128; refine zkp (isDigit_any _ _ qaa qaa) ?_))
   go_ret
   exact ⟨ret_bool qbc, rfl⟩
theorem part_spec (s : ByteArray) (w : World) (hs : s.size ≤ 9223372036854775807) : Calls Tryz.prog 82 #[.string s] w fun e w' => e = .returned (.bool (decide (1 ≤ s.size) && partF s)) ∧ w = w' := by
 go_enter Tryz.func82, Tryz.ntmps82
 go_wp2
 go_loop [3] (fun i => ∃ k : Nat, k ≤ s.size ∧ i = .int .i64 k ∧ ∀ j, j < k → ptP s j = true) (fun i => s.size - (intOf i).toNat)
 case atStart => exact ⟨0, Nat.zero_le _, rfl, fun j hj => absurd hj qaa⟩
 case round =>
  obtain ⟨k, hk, rfl, hall⟩ := hrel
  have HALL := hid hall
  clear hall
  by_cases hlt : k < s.size
  ·have hp : ptP s k = (ltrI (s[k].toNat : Int) || (digI (s[k].toNat : Int) || ((s[k].toNat : Int) == 95 || ((s[k].toNat : Int) == 45 || (s[k].toNat : Int) == 46)))) := by unfold ptP; rw [bI_eq s k hlt]
   have HP := hid hp
   clear hp
   have GO := hid (fun (h : ptP s k = true) => (fun j hj => (by
    by_cases e : j = k
    ·subst e; exact h
    ·exact HALL.out j qaa) : ∀ j, j < k + 1 → ptP s j = true))
   have hx0 : (0 : Int) ≤ (s[k].toNat : Int) := qaa
   have hx1 : (s[k].toNat : Int) ≤ 255 := by have := s[k].toNat_lt; omega
   have hd : decide ((k : Int) < (s.size : Int)) = true := by simpa using hlt
   have hd2 : decide (k < s.size) = true := by simpa using hlt
   cases hl : ltrI (s[k].toNat : Int) with
   | true =>
    have HT := hid (show ptP s k = true from by rw [HP.out, hl]; simp)
    exact zz31
   | false =>
   cases h95 : ((s[k].toNat : Int) == 95) with
   | true =>
    have nh95 : ((s[k].toNat : Int) != 95) = false := by rw [bne, h95]; rfl
    have HT := hid (show ptP s k = true from by rw [HP.out, h95]; simp)
    exact zz31
   | false =>
   have nh95 : ((s[k].toNat : Int) != 95) = true := by rw [bne, h95]; rfl
   cases hg : digI (s[k].toNat : Int) with
   | true =>
    have HT := hid (show ptP s k = true from by rw [HP.out, hg]; simp)
    exact zz31
   | false =>
   cases h45 : ((s[k].toNat : Int) == 45) with
   | true =>
    have nh45 : ((s[k].toNat : Int) != 45) = false := by rw [bne, h45]; rfl
    have HT := hid (show ptP s k = true from by rw [HP.out, h45]; simp)
    exact zz31
   | false =>
   have nh45 : ((s[k].toNat : Int) != 45) = true := by rw [bne, h45]; rfl
   cases h46 : ((s[k].toNat : Int) == 46) with
   | true =>
    have nh46 : ((s[k].toNat : Int) != 46) = false := by rw [bne, h46]; rfl
    have HT := hid (show ptP s k = true from by rw [HP.out, h46]; simp)
    exact zz31
   | false =>
   have nh46 : ((s[k].toNat : Int) != 46) = true := by rw [bne, h46]; rfl
   have HT := hid (show partF s = false from by unfold partF; rw [allB_false hlt (by rw [HP.out, hl, hg, h95, h45, h46]; rfl)]; simp)
   go_wp2_with (first | (go_at_call 121; refine zkp (l14Letter_any _ _ qaa qaa) ?_) | (go_at_call 122; refine zkp (l14Digit_any _ _ qaa qaa) ?_) | (go_at_call 51; refine zkp (l1In_any _ _ _ _) ?_))
   go_ret
   exact ⟨ret_bool (by first | exact HT.out.symm | (rw [HT.out]; simp)), rfl⟩
  ·obtain rfl : k = s.size := qaa
   have hd : decide ((s.size : Int) < (s.size : Int)) = false := by simp
   have HT := hid (allB_true HALL.out)
   clear hlt
   go_wp2_with (first | (go_at_call 121; refine zkp (l14Letter_any _ _ qaa qaa) ?_) | (go_at_call 122; refine zkp (l14Digit_any _ _ qaa qaa) ?_) | (go_at_call 51; refine zkp (l1In_any _ _ _ _) ?_))
   go_ret
   exact ⟨ret_bool qbc, rfl⟩
open Go.ChangeShapes Go.WideShapes Go.ChangeAt Go.RowKit Go.Deep Go.Joins Go.Shelf
def laysSplit_ren : Go.Shelf.Ren := ⟨fun | 146 => 97 | 221 => 126 | 268 => 143 | 138 => 144 | 143 => 136 | 195 => 151 | 197 => 152 | 218 => 153 | 219 => 149 | 260 => 160 | 217 => 155 | 225 => 156 | 224 => 157 | 267 => 158 | 266 => 161 | 314 => 162 | n => n, fun | 9 => 9 | 31 => 40 | 3 => 3 | 4 => 4 | 0 => 0 | 105 => 160 | 21 => 21 | 5 => 5 | 46 => 164 | 119 => 169 | 139 => 172 | 138 => 171 | 146 => 167 | 51 => 166 | n => n, fun | 1 => 0 | 3 => 1 | 4 => 2 | n => n⟩
theorem laysSplit : Go.Proofs.LaysM.n146 Tryz.prog laysSplit_ren := {
 mixed := by kernel_rfl
 f138 := Tryz.func144.trans (congrArg some qab)
 f143 := Tryz.func136.trans (congrArg some qab)
 f146 := Tryz.func97.trans (congrArg some qab)
 f195 := Tryz.func151.trans (congrArg some qab)
 f197 := Tryz.func152.trans (congrArg some qab)
 f217 := Tryz.func155.trans (congrArg some qab)
 f218 := Tryz.func153.trans (congrArg some qab)
 f219 := Tryz.func149.trans (congrArg some qab)
 f221 := Tryz.func126.trans (congrArg some qab)
 f224 := Tryz.func157.trans (congrArg some qab)
 f225 := Tryz.func156.trans (congrArg some qab)
 f260 := Tryz.func160.trans (congrArg some qab)
 f266 := Tryz.func161.trans (congrArg some qab)
 f267 := Tryz.func158.trans (congrArg some qab)
 f268 := Tryz.func143.trans (congrArg some qab)
 f314 := Tryz.func162.trans (congrArg some qab)
 t0 := Tryz.underlying0
 a0 := Tryz.isAgg0
 z0 := Tryz.sizeOf0
 v0 := Tryz.zeroValue0
 t3 := Tryz.underlying3
 a3 := Tryz.isAgg3
 z3 := Tryz.sizeOf3
 v3 := Tryz.zeroValue3
 t4 := Tryz.underlying4
 a4 := Tryz.isAgg4
 z4 := Tryz.sizeOf4
 v4 := Tryz.zeroValue4
 t5 := Tryz.underlying5
 a5 := Tryz.isAgg5
 z5 := Tryz.sizeOf5
 v5 := Tryz.zeroValue5
 t9 := Tryz.underlying9
 a9 := Tryz.isAgg9
 z9 := Tryz.sizeOf9
 v9 := Tryz.zeroValue9
 t21 := Tryz.underlying21
 a21 := Tryz.isAgg21
 z21 := Tryz.sizeOf21
 v21 := Tryz.zeroValue21
 t31 := Tryz.underlying40
 a31 := Tryz.isAgg40
 z31 := Tryz.sizeOf40
 v31 := Tryz.zeroValue40
 t46 := Tryz.underlying164
 a46 := Tryz.isAgg164
 z46 := Tryz.sizeOf164
 v46 := Tryz.zeroValue164
 t51 := Tryz.underlying166
 a51 := Tryz.isAgg166
 z51 := Tryz.sizeOf166
 v51 := Tryz.zeroValue166
 t105 := Tryz.underlying160
 a105 := Tryz.isAgg160
 z105 := Tryz.sizeOf160
 v105 := Tryz.zeroValue160
 t119 := Tryz.underlying169
 a119 := Tryz.isAgg169
 z119 := Tryz.sizeOf169
 t138 := Tryz.underlying171
 a138 := Tryz.isAgg171
 z138 := Tryz.sizeOf171
 v138 := Tryz.zeroValue171
 t139 := Tryz.underlying172
 a139 := Tryz.isAgg172
 z139 := Tryz.sizeOf172
 v139 := Tryz.zeroValue172
 t146 := Tryz.underlying167
 a146 := Tryz.isAgg167
 z146 := Tryz.sizeOf167
 v146 := Tryz.zeroValue167
 g1 := by kernel_rfl
 g3 := by kernel_rfl
 g4 := by kernel_rfl
 i0 := by kernel_rfl
 i3 := by kernel_rfl
 i4 := by kernel_rfl
 i5 := by kernel_rfl
 i9 := by kernel_rfl
 i21 := by kernel_rfl
 i31 := by kernel_rfl
 i46 := by kernel_rfl
 i51 := by kernel_rfl
 i105 := by kernel_rfl
 i138 := by kernel_rfl
 i139 := by kernel_rfl
 i146 := by kernel_rfl
 m1 := by kernel_rfl
 s1_3 := fun w h => Go.Proofs.cell_of_shapedOpen_int (zero := #[.int .i64 0]) (t := 3) h (of_decide_eq_true qab) qab rfl qab qab Tryz.underlying3
 m3 := by kernel_rfl
 m4 := by kernel_rfl }
/-- The library's own variable that strings.Index reads holds some integer. -/
def MaxAt (w : World) : Prop := ∃ g m, Tryz.prog.globalNamed "internal/bytealg.MaxLen" = some g ∧ w.cell? ⟨g, 0, none⟩ = some (.int .i64 m)
theorem MaxAt.shaped {w : World} (h : w.ShapedOpen Tryz.prog) : MaxAt w := by
 obtain ⟨m, hm⟩ := laysSplit.s1_3 w h
 exact ⟨_, m, laysSplit.m1, hm⟩
theorem MaxAt.below {w w' : World} (h : MaxAt w) (hb : Below w.heap.size w w') : MaxAt w' := by
 obtain ⟨g, m, h1, h2⟩ := h
 exact ⟨g, m, h1, (hb.cell (p := ⟨g, 0, none⟩) (World.block_lt_of_cell? _ _ h2)).trans h2⟩
theorem pcs_zero (s : ByteArray) : s.extract 0 s.size = s := by
 apply ba_ext
 rw [ext_end, List.drop_zero]
theorem splitC (s : ByteArray) (w : World) (hs : s.size ≤ 1048576) (hm : MaxAt w) : Calls Tryz.prog 97 #[.string s, .string ⟨#[47]⟩] w fun e w' => e = .returned (.slice (some ⟨w.heap.size, 0, none⟩) (pcs s 0).length (pcs s 0).length) ∧ w' = w.alloc (.cells ((pcs s 0).map Value.string).toArray 9) := by
 obtain ⟨g, m, h1, h2⟩ := hm
 have hg := Option.some.inj (laysSplit.m1.symm.trans h1)
 rw [← hg] at h2
 have hl := Lib.splitB_all slash qbt 0 _ s rfl
 unfold pcs
 rw [pcs_zero, hl]
 exact Any.strings_Split { laysSplit with } laysSplit.i9 s slash m w qaa h2 qbt
theorem split_small : ∀ (k : Nat) (t : ByteArray), ∀ x ∈ Lib.splitB slash 0 k t, x.size ≤ t.size
 | 0, t, x, hx => by
  rw [Lib.splitB_zero] at hx
  obtain rfl := List.mem_singleton.1 hx
  exact Nat.le_refl _
 | k + 1, t, x, hx => by
  rw [Lib.splitB] at hx
  split at hx
  ·obtain rfl := List.mem_singleton.1 hx
   exact Nat.le_refl _
  ·rcases List.mem_cons.1 hx with rfl | hx
   ·rw [ByteArray.size_extract]; omega
   ·have := split_small k _ x hx
    rw [ByteArray.size_extract] at this
    omega
theorem pcs_small (s : ByteArray) (a : Nat) : ∀ x ∈ pcs s a, x.size ≤ s.size := fun x hx => by
 have := split_small _ _ x hx
 rw [ByteArray.size_extract] at this
 omega
/-- A row of strings in the call's own memory. -/
abbrev STbl (w : World) (base g c : Nat) (V : List ByteArray) : Prop := w.ownsRow base 9 1 (.slice (some ⟨g, 0, none⟩) V.length c) V.length (V.map Value.string)
theorem sInfo : (Tryz.prog.info? 9).map (fun i => (i.zero.map Value.cells, i.size, i.bytes)) = some (some #[.string ByteArray.empty], 1, 16) := by kernel_rfl
theorem srd_one (w : World) (u : Value) (e : TypeId) : Rd (w.alloc (.cells #[u] e)) (w.heap.size + 1) 1 (.slice (some ⟨w.heap.size, 0, none⟩) 1 1) 1 [u] := by
 refine ⟨_, _, rfl, Nat.le_refl _, by unfold maxLen; omega, rfl, fun _ => ⟨_, _, rfl, by omega, fun j x hx => ?_⟩⟩
 match j, hx with
 | 0, hx => obtain rfl : u = x := by simpa using hx
            simp [go_sem]
theorem STbl.lt {w : World} {base g c : Nat} {V : List ByteArray} (h : STbl w base g c V) : base ≤ g ∧ g < w.heap.size := own_lt h g rfl
theorem STbl.cap {w : World} {base g c : Nat} {V : List ByteArray} (h : STbl w base g c V) : V.length ≤ c := by
 rcases own_row h with ⟨hv, _, _⟩ | ⟨g6, cap6, f6, hv, _, h9, _, _, _⟩
 ·cases hv
 ·injection hv with e1 e2 e3
  omega
theorem STbl.pop {w : World} {base g c : Nat} {V : List ByteArray} {x : ByteArray} (h : STbl w base g c (V ++ [x])) : STbl w base g c V := by
 unfold STbl at h
 rw [List.length_append, List.map_append] at h
 exact ownsRow_pop (n := V.length) (size := 1) (xs := V.map Value.string) (last := [x].map Value.string) qag h
theorem slast : ∀ L : List ByteArray, L.length ≠ 0 → ∃ L' x, L = L' ++ [x]
 | L, h => ⟨L.dropLast, L.getLast (fun e => h (by rw [e]; rfl)), (List.dropLast_concat_getLast _).symm⟩
theorem lit0 : (ByteArray.mk #[]).toList = ([] : List UInt8) := (ByteArray.toList_eq _).trans rfl
theorem lit0e : ByteArray.empty.toList = ([] : List UInt8) := (ByteArray.toList_eq _).trans rfl
theorem lit1 : (ByteArray.mk #[46]).toList = dotL := (ByteArray.toList_eq _).trans rfl
theorem lit2 : (ByteArray.mk #[46, 46]).toList = upL := (ByteArray.toList_eq _).trans rfl
theorem nonempty_size {p : ByteArray} (h : (p.toList == ([] : List UInt8)) = false) : 1 ≤ p.size := by
 rcases Nat.eq_zero_or_pos p.size with e | e
 ·rw [ByteArray.toList_eq] at h
  have : p.data.toList = [] := List.length_eq_zero_iff.1 (by rw [← Lib.size_eq]; exact e)
  rw [this] at h
  cases h
 ·exact e
def IRel (w : World) (s : ByteArray) (v i : Value) (wr : World) : Prop := ∃ (k g c : Nat) (acc : List ByteArray), k ≤ (pcs s 0).length ∧ i = .int .i64 k ∧ v = .slice (some ⟨g, 0, none⟩) acc.length c ∧ STbl wr w.heap.size g c acc ∧ g ≠ w.heap.size + 1 ∧ foldP ((pcs s 0).drop k) acc = spO s ∧ Blk wr (w.heap.size + 1) 9 ((pcs s 0).map Value.string).toArray ∧ Below w.heap.size w wr ∧ acc.length ≤ k
def SRel (w : World) (s : ByteArray) (v a i : Value) (wr : World) : Prop := ∃ (k b g c : Nat) (acc : List ByteArray), i = .int .i64 k ∧ a = .int .i64 b ∧ v = .slice (some ⟨g, 0, none⟩) acc.length c ∧ STbl wr w.heap.size g c acc ∧ ((k ≤ s.size ∧ b ≤ k ∧ (∀ j, b ≤ j → j < k → s.data.toList[j]? ≠ some 47) ∧ foldP (pcs s b) acc = spO s) ∨ (k = s.size + 1 ∧ spO s = some acc)) ∧ Below w.heap.size w wr ∧ acc.length ≤ k
theorem SplitPath_impl (s : ByteArray) (w : World) (hs : s.size ≤ 1048576) (hm : MaxAt w) :
  Calls Tryz.prog 65 #[.string s] w fun e w' => ∃ A c, e = .returned (.tuple #[.slice A (spV s).length c, .bool (spB s)]) ∧ w'.ownsRow w.heap.size 9 1 (.slice A (spV s).length c) (spV s).length ((spV s).map Value.string) ∧ Below w.heap.size w w' := by
 have HE := hid (show ∀ (w' : World) (q : List ByteArray) (b : Bool), spV s = q → spB s = b → ∀ (A : Option Addr) (c : Nat), w'.ownsRow w.heap.size 9 1 (.slice A q.length c) q.length (q.map Value.string) → Below w.heap.size w w' → ∃ A' c', Ending.returned (.tuple #[.slice A q.length c, .bool b]) = Ending.returned (.tuple #[.slice A' (spV s).length c', .bool (spB s)]) ∧ w'.ownsRow w.heap.size 9 1 (.slice A' (spV s).length c') (spV s).length ((spV s).map Value.string) ∧ Below w.heap.size w w' from by
  rintro w' q b rfl rfl A c h1 h2
  exact ⟨A, c, rfl, h1, h2⟩)
 have hpl := pcs_len s
 have hm1 := hid (hm.below ((Below.refl w.heap.size w).alloc nr (.cells #[] 9)))
 clear hm
 go_enter Tryz.func65, Tryz.ntmps65
 go_wp2_with (go_at_call 97; refine (splitC s _ hs hm1.out).mono ?_; rintro e w' ⟨rfl, rfl⟩)
 go_loopw [4, 11] (fun v i wr => IRel w s v i wr) (fun _ i _ => (pcs s 0).length - (intOf i).toNat)
 case atStart =>
  unfold IRel
  refine ⟨0, w.heap.size, 0, [], Nat.zero_le _, rfl, rfl, by simpa [STbl] using World.ownsRow.alloc (own_empty w 9 1) _, by omega, by rw [List.drop_zero]; rfl, ?_, ((Below.refl _ _).alloc nr _).alloc qag _, Nat.le_refl _⟩
  exact Blk.new' _ _ _ _ qag
 case round =>
  obtain ⟨k, g, c, acc, hk, rfl, rfl, own, hne, hfo, hpc, hb, hacc⟩ := hrel
  have OWN := hid own
  have HNE := hid hne
  have HFO := hid hfo
  have HPC := hid hpc
  have HB := hid hb
  have HSZ := hid hpc.lt
  have hbs := hb.size
  by_cases hlt : k < (pcs s 0).length
  ·obtain ⟨p, hp⟩ : ∃ p, (pcs s 0)[k]? = some p := ⟨_, List.getElem?_eq_getElem hlt⟩
   have hps : p.size ≤ 9223372036854775807 := by have := pcs_small s 0 p (List.mem_of_getElem? hp); omega
   have c_0 : wr.cell? ⟨w.heap.size + 1, k, none⟩ = some (.string p) := by rw [hpc.cell k]; simp [hp]
   obtain ⟨rest, hrest⟩ : ∃ rest, rest = (pcs s 0).drop (k + 1) := ⟨_, rfl⟩
   have HDR0 : (pcs s 0).drop k = p :: rest := by rw [hrest, List.drop_eq_getElem_cons hlt, (List.getElem?_eq_some_iff.1 hp).2]
   have HDR := hid HDR0
   have HRS := hid hrest
   have hlm := STbl.lt own
   obtain ⟨hlm1, hlm2⟩ := hlm
   clear HDR0 hrest hp own hne hfo hpc hb
   cases q0 : (p.toList == ([] : List UInt8)) with
   | true =>
    have q0a : (p.toList == []) = true := q0
    have q0b : (p.toList == (ByteArray.mk #[]).toList) = true := by rw [lit0]; exact q0
    have q0c : p.toList.isEmpty = true := by rw [← q0]; cases p.toList <;> rfl
    have q0d : (p.toList == ByteArray.empty.toList) = true := by rw [lit0e]; exact q0
    have HF := hid (fold_e (r := rest) (acc := acc) q0)
    clear q0
    exact zz101
   | false =>
   have q0a : (p.toList == []) = false := q0
   have q0b : (p.toList == (ByteArray.mk #[]).toList) = false := by rw [lit0]; exact q0
   have q0c : p.toList.isEmpty = false := by rw [← q0]; cases p.toList <;> rfl
   have q0d : (p.toList == ByteArray.empty.toList) = false := by rw [lit0e]; exact q0
   have Q0 := hid q0
   clear q0
   cases q1 : (p.toList == dotL) with
   | true =>
    have q1a : (p.toList == [46]) = true := q1
    have q1b : (p.toList == (ByteArray.mk #[46]).toList) = true := by rw [lit1]; exact q1
    have HF := hid (fold_d (r := rest) (acc := acc) Q0.out q1)
    clear q1
    exact zz101
   | false =>
   have q1a : (p.toList == [46]) = false := q1
   have q1b : (p.toList == (ByteArray.mk #[46]).toList) = false := by rw [lit1]; exact q1
   have Q1 := hid q1
   clear q1
   cases q2 : (p.toList == upL) with
   | true =>
    have q2a : (p.toList == [46, 46]) = true := q2
    have q2b : (p.toList == (ByteArray.mk #[46, 46]).toList) = true := by rw [lit2]; exact q2
    by_cases hz : acc.length = 0
    ·have dz : ((acc.length : Int) == 0) = true := by simp [hz]
     have HF := hid (fold_u0 (r := rest) (acc := acc) Q0.out Q1.out q2 hz)
     clear q2
     obtain ⟨e1, e2⟩ := sp_none (s := s) qbk
     have EE := hid (And.intro e1 e2)
     clear e1 e2
     go_wp2_with fail
     go_ret2
     exact HE.out _ [] false EE.out.1 EE.out.2 none 0 (World.ownsRow_nil _ _ _ _) HB.out
    have dz : ((acc.length : Int) == 0) = false := by simp [hz]
    have HF := hid (fold_u (r := rest) (acc := acc) Q0.out Q1.out q2 hz)
    obtain ⟨acc2, x, hax⟩ := slast acc hz
    have HF2 := hid (show foldP (p :: rest) (acc2 ++ [x]) = foldP rest acc2 from by rw [← hax, HF.out, hax, List.dropLast_concat])
    subst hax
    have O2 := hid (STbl.pop OWN.out)
    have hcap := STbl.cap OWN.out
    have hl2 : (acc2 ++ [x]).length = acc2.length + 1 := by simp
    rw [hl2] at hcap hacc
    clear q2 HF hz
    go_wp2_with fail
    go_roundw
    case rel =>
     unfold IRel
     exact ⟨k + 1, g, c, acc2, by omega, by go_num, rfl, O2.out, HNE.out, by rw [← HRS.out, ← HF2.out, ← HDR.out]; exact HFO.out, HPC.out, HB.out, by omega⟩
    case measure => simp [intOf]; omega
   | false =>
   have q2a : (p.toList == [46, 46]) = false := q2
   have q2b : (p.toList == (ByteArray.mk #[46, 46]).toList) = false := by rw [lit2]; exact q2
   have Q2 := hid q2
   clear q2
   cases q3 : partF p with
   | false =>
    have Q3 := hid q3
    have HF := hid (fold_n (r := rest) (acc := acc) Q0.out Q1.out Q2.out q3)
    clear q3
    obtain ⟨e1, e2⟩ := sp_none (s := s) qbk
    have EE := hid (And.intro e1 e2)
    clear e1 e2
    go_wp2_with (go_at_call 98; refine (part_impl p _ hps).mono ?_; rw [Q3.out]; rintro e w' ⟨rfl, rfl⟩)
    go_ret2
    exact HE.out _ [] false EE.out.1 EE.out.2 none 0 (World.ownsRow_nil _ _ _ _) HB.out
   | true =>
    have Q3 := hid q3
    have HF := hid (fold_p (r := rest) (acc := acc) Q0.out Q1.out Q2.out q3)
    clear q3
    have RDX := hid (srd_one wr (.string p) 9)
    have L1 := hid (STbl.lt OWN.out)
    go_wp2_with (first | (go_at_call 98; refine (part_impl p _ hps).mono ?_; rw [Q3.out]; rintro e w' ⟨rfl, rfl⟩) | (at_builtin; go_must (refine wpList_append_rd _ rfl (.tmp 15) (.tmp 17) _ rfl w.heap.size _ _ _ 16 Tryz.underlying40 sInfo rfl qaa (.slice (some ⟨g, 0, none⟩) acc.length c) _ _ rfl (OWN.out.alloc _) (wr.heap.size + 1) _ 1 _ [.string p] rfl RDX.out qa1 qao qaa qak ?_); intro v2 w4 hown2 hg2 hat2; obtain ⟨A6, c6, rfl⟩ := own_form hown2; have HG2 := hid hg2; have HW2 := hid hown2; have HA2 := hid hat2; clear hg2 hat2 hown2))
    go_roundw
    case rel =>
     have hown2 := HW2.out
     have hg2 : (wr.alloc (.cells #[.string p] 9)).grownBy w4 (some g) := HG2.out
     have hat2 := HA2.out
     rcases own_row hown2 with ⟨hv, h0, _⟩ | ⟨g6, cap6, f6, hv, _, _, _, _, _⟩
     ·omega
     injection hv with e1 e2 e3
     subst e1
     have T2 : STbl w4 w.heap.size g6 c6 (acc ++ [p]) := by
      exact zz128
     have hl1 := L1.out
     have hne6 : g6 ≠ w.heap.size + 1 := by
      have := HNE.out
      have := HSZ.out
      rcases hat2 with e | e
      ·have h : g6 = g := Option.some.inj e
       omega
      ·have h : g6 = _ := Option.some.inj e
       simp at h
       omega
     unfold IRel
     exact ⟨k + 1, g6, c6, acc ++ [p], by omega, by go_num, by rw [List.length_append]; rfl, T2, hne6, by rw [← HRS.out, ← HF.out, ← HDR.out]; exact HFO.out, (hg2.block (w.heap.size + 1) (by have := HSZ.out; simp; omega) (fun e => HNE.out (Option.some.inj e.symm))).trans (HPC.out.alloc _), (HB.out.alloc HB.out.size _).grown hg2 (by have := HB.out.size; simp; omega) (fun j hj => by have := Option.some.inj hj; omega), (by rw [List.length_append]; simp; omega)⟩
    case measure => simp [intOf]; omega
  ·obtain rfl : k = (pcs s 0).length := qaa
   clear hlt
   have hfin : spO s = some acc := by
    rw [← hfo, List.drop_length]
    rfl
   obtain ⟨e1, e2⟩ := sp_some hfin
   have EE := hid (And.intro e1 e2)
   clear e1 e2 hfin hfo own hne hpc hb
   go_wp2_with fail
   go_ret2
   exact HE.out _ acc true EE.out.1 EE.out.2 _ _ OWN.out HB.out
end Go.Proofs.YtkkjnfappndmpaaGreatDoor
