/-
  Plain facts on ranges, scans and bytes; and what the functions on letters, digits and ranges of numbers return. Conditions: none.
-/
import Derived.Test.YtgbeenieacnanaaDoorBase
namespace Go.Proofs.YtgbeenieacnanaaDoor
open Go.ChangeShapes Go.WideShapes Go.ChangeAt Go.RowKit Go.Deep Go.Joins
open Go.ChangeMaps (open_string shut_string)
set_option linter.unusedVariables false

/-! ### plain -/
def scan (p : Nat → Bool) : Nat → Nat → Nat
  | 0, i => i
  | f + 1, i => if p i then scan p f (i + 1) else i
theorem scan_eq (p : Nat → Bool) : ∀ (f i k : Nat), i ≤ k → k ≤ i + f → (∀ j, i ≤ j → j < k → p j = true) → (k = i + f ∨ p k = false) → scan p f i = k
  | 0, i, k, h1, h2, _, _ => by simp [scan]; omega
  | f + 1, i, k, h1, h2, h3, h4 => by
    unfold scan
    by_cases hk : i = k
    · subst hk
      have : p i = false := by
        rcases h4 with h | h
        · omega
        · exact h
      simp [this]
    · rw [if_pos (h3 i (Nat.le_refl _) (by omega))]
      exact scan_eq p f (i + 1) k (by omega) (by omega) (fun j a b => h3 j (by omega) b) (by rcases h4 with h | h; exact .inl (by omega); exact .inr h)
/-- Every number below n answers yes. -/
def allB (p : Nat → Bool) (n : Nat) : Bool := (List.range n).all p
theorem allB_true {p : Nat → Bool} {n : Nat} (h : ∀ j, j < n → p j = true) : allB p n = true := by
  unfold allB; rw [List.all_eq_true]; exact fun j hj => h j (List.mem_range.1 hj)
theorem allB_false {p : Nat → Bool} {n k : Nat} (hk : k < n) (h : p k = false) : allB p n = false := by
  unfold allB; rw [Bool.eq_false_iff]; intro hc
  have := List.all_eq_true.1 hc k (List.mem_range.2 hk)
  rw [h] at this; cases this
theorem allB_get {p : Nat → Bool} {n : Nat} (h : allB p n = true) : ∀ j, j < n → p j = true := fun j hj => List.all_eq_true.1 h j (List.mem_range.2 hj)
theorem allB_congr {p q : Nat → Bool} {n : Nat} (h : ∀ j, j < n → p j = q j) : allB p n = allB q n := by
  rw [Bool.eq_iff_iff]
  exact ⟨fun a => allB_true fun j hj => (h j hj) ▸ allB_get a j hj, fun a => allB_true fun j hj => (h j hj).symm ▸ allB_get a j hj⟩
/-- The byte at an index, as a number; 0 behind the end. -/
def bI (s : ByteArray) (k : Nat) : Int := ((s.toList.getD k 0).toNat : Int)
theorem bI_eq (s : ByteArray) (k : Nat) (h : k < s.size) : bI s k = (s[k].toNat : Int) := by
  unfold bI
  rw [ByteArray.toList_eq, List.getD_eq_getElem?_getD, List.getElem?_eq_getElem (by simpa using h)]
  rfl
theorem u8_lt (c : UInt8) : (c.toNat : Int) ≤ 255 ∧ 0 ≤ (c.toNat : Int) := by have := c.toNat_lt; omega
theorem size_toList (s : ByteArray) : s.toList.length = s.size := by rw [ByteArray.toList_eq]; simp
theorem beq_len {a b : List UInt8} (h : a.length ≠ b.length) : (a == b) = false := by
  rw [beq_eq_false_iff_ne]; rintro rfl; exact h rfl

def ltrI (x : Int) : Bool := decide (65 ≤ x ∧ x ≤ 90) || decide (97 ≤ x ∧ x ≤ 122)
def digI (x : Int) : Bool := decide (48 ≤ x ∧ x ≤ 57)
def inB (x a b : Int) : Bool := decide (a ≤ x ∧ x ≤ b)
theorem ltrI_t {x : Int} (h : 65 ≤ x ∧ x ≤ 90 ∨ 97 ≤ x ∧ x ≤ 122) : ltrI x = true := by unfold ltrI; rcases h with h | h <;> simp [h]
theorem ltrI_f {x : Int} (h : ¬ (65 ≤ x ∧ x ≤ 90 ∨ 97 ≤ x ∧ x ≤ 122)) : ltrI x = false := by
  unfold ltrI; rw [decide_eq_false (fun e => h (.inl e)), decide_eq_false (fun e => h (.inr e))]; rfl
theorem digI_t {x : Int} (h : 48 ≤ x ∧ x ≤ 57) : digI x = true := by unfold digI; simp [h]
theorem digI_f {x : Int} (h : ¬ (48 ≤ x ∧ x ≤ 57)) : digI x = false := by unfold digI; rw [decide_eq_false h]
theorem inB_t {x a b : Int} (h : a ≤ x ∧ x ≤ b) : inB x a b = true := by unfold inB; simp [h]
theorem inB_f {x a b : Int} (h : ¬ (a ≤ x ∧ x ≤ b)) : inB x a b = false := by unfold inB; rw [decide_eq_false h]
theorem inB_iff {x a b : Int} : inB x a b = true ↔ a ≤ x ∧ x ≤ b := by unfold inB; exact decide_eq_true_iff
theorem ltrI_iff {x : Int} : ltrI x = true ↔ 65 ≤ x ∧ x ≤ 90 ∨ 97 ≤ x ∧ x ≤ 122 := by unfold ltrI; simp
theorem digI_iff {x : Int} : digI x = true ↔ 48 ≤ x ∧ x ≤ 57 := by unfold digI; exact decide_eq_true_iff

/-! ### walks -/
theorem inRange_any (x a b : Int) (w : World) : Calls Tryd.prog 27 #[.int .i64 x, .int .i64 a, .int .i64 b] w fun e w' => e = .returned (.bool (inB x a b)) ∧ w = w' := by
  by_cases h1 : a ≤ x
  · by_cases h2 : x ≤ b
    · go_enter Tryd.func27, Tryd.ntmps27
      go_wp2
      go_ret
      exact ⟨ret_bool (inB_t ⟨h1, h2⟩).symm, rfl⟩
    · go_enter Tryd.func27, Tryd.ntmps27
      go_wp2
      go_ret
      exact ⟨ret_bool (inB_f (by omega)).symm, rfl⟩
  · have hd : decide (a ≤ x) = false := by simpa using h1
    go_enter Tryd.func27, Tryd.ntmps27
    go_wp2
    go_ret
    exact ⟨ret_bool (inB_f (by omega)).symm, rfl⟩
theorem l1In_any (x a b : Int) (w : World) : Calls Tryd.prog 21 #[.int .i64 x, .int .i64 a, .int .i64 b] w fun e w' => e = .returned (.bool (inB x a b)) ∧ w = w' := by
  by_cases h1 : a ≤ x
  · by_cases h2 : x ≤ b
    · go_enter Tryd.func21, Tryd.ntmps21
      go_wp2
      go_ret
      exact ⟨ret_bool (inB_t ⟨h1, h2⟩).symm, rfl⟩
    · go_enter Tryd.func21, Tryd.ntmps21
      go_wp2
      go_ret
      exact ⟨ret_bool (inB_f (by omega)).symm, rfl⟩
  · have hd : decide (a ≤ x) = false := by simpa using h1
    go_enter Tryd.func21, Tryd.ntmps21
    go_wp2
    go_ret
    exact ⟨ret_bool (inB_f (by omega)).symm, rfl⟩
theorem isLetter_any (x : Int) (w : World) (h0 : 0 ≤ x) (h255 : x ≤ 255) : Calls Tryd.prog 72 #[.int .u8 x] w fun e w' => e = .returned (.bool (ltrI x)) ∧ w = w' := by
  by_cases a1 : 65 ≤ x <;> by_cases a2 : x ≤ 90 <;> by_cases a3 : 97 ≤ x <;> by_cases a4 : x ≤ 122
  all_goals first
    | omega
    | (go_enter Tryd.func72, Tryd.ntmps72
       go_wp2
       go_ret
       exact ⟨ret_bool (by first | rw [ltrI_t (by omega)] | rw [ltrI_f (by omega)]), rfl⟩)
theorem isDigit_any (x : Int) (w : World) (h0 : 0 ≤ x) (h255 : x ≤ 255) : Calls Tryd.prog 73 #[.int .u8 x] w fun e w' => e = .returned (.bool (digI x)) ∧ w = w' := by
  by_cases a1 : 48 ≤ x <;> by_cases a2 : x ≤ 57
  all_goals first
    | omega
    | (go_enter Tryd.func73, Tryd.ntmps73
       go_wp2
       go_ret
       exact ⟨ret_bool (by first | rw [digI_t (by omega)] | rw [digI_f (by omega)]), rfl⟩)
theorem l14Letter_any (x : Int) (w : World) (h0 : 0 ≤ x) (h255 : x ≤ 255) : Calls Tryd.prog 70 #[.int .u8 x] w fun e w' => e = .returned (.bool (ltrI x || x == 95)) ∧ w = w' := by
  by_cases a1 : inB x 97 122 = true
  · go_enter Tryd.func70, Tryd.ntmps70
    go_wp2_with (go_at_call 21; refine (l1In_any _ _ _ _).mono ?_; rintro e w' ⟨rfl, rfl⟩)
    go_ret
    have b1 := inB_iff.1 a1
    exact ⟨ret_bool (by rw [ltrI_t (by omega)]; rfl), rfl⟩
  · have a1' : inB x 97 122 = false := by simpa using a1
    by_cases a2 : inB x 65 90 = true
    · go_enter Tryd.func70, Tryd.ntmps70
      go_wp2_with (go_at_call 21; refine (l1In_any _ _ _ _).mono ?_; rintro e w' ⟨rfl, rfl⟩)
      go_ret
      have b1 := inB_iff.1 a2
      exact ⟨ret_bool (by rw [ltrI_t (by omega)]; rfl), rfl⟩
    · have a2' : inB x 65 90 = false := by simpa using a2
      go_enter Tryd.func70, Tryd.ntmps70
      go_wp2_with (go_at_call 21; refine (l1In_any _ _ _ _).mono ?_; rintro e w' ⟨rfl, rfl⟩)
      go_ret
      rw [inB_iff] at a1 a2
      exact ⟨ret_bool (by rw [ltrI_f (by omega)]; rfl), rfl⟩
theorem l14Digit_any (x : Int) (w : World) (h0 : 0 ≤ x) (h255 : x ≤ 255) : Calls Tryd.prog 71 #[.int .u8 x] w fun e w' => e = .returned (.bool (digI x)) ∧ w = w' := by
  go_enter Tryd.func71, Tryd.ntmps71
  go_wp2_with (go_at_call 21; refine (l1In_any _ _ _ _).mono ?_; rintro e w' ⟨rfl, rfl⟩)
  go_ret
  exact ⟨ret_bool rfl, rfl⟩
def resWords : List (List UInt8) := [[101, 99, 104, 111], [105, 102], [101, 108, 115, 101], [119, 104, 105, 108, 101], [102, 111, 114, 101, 97, 99, 104], [97, 115], [98, 114, 101, 97, 107], [99, 111, 110, 116, 105, 110, 117, 101], [114, 101, 116, 117, 114, 110], [103, 108, 111, 98, 97, 108], [117, 110, 115, 101, 116], [116, 104, 114, 111, 119], [116, 114, 121], [99, 97, 116, 99, 104], [102, 105, 110, 97, 108, 108, 121], [121, 105, 101, 108, 100], [105, 110, 99, 108, 117, 100, 101], [102, 117, 110, 99, 116, 105, 111, 110], [99, 108, 97, 115, 115], [116, 114, 97, 105, 116], [101, 120, 116, 101, 110, 100, 115], [117, 115, 101], [112, 114, 105, 118, 97, 116, 101], [115, 116, 97, 116, 105, 99], [110, 101, 119], [116, 114, 117, 101], [102, 97, 108, 115, 101], [110, 117, 108, 108]]
def resF (s : List UInt8) : Bool := resWords.any fun x => x == s
theorem resWords_len : resWords.length = 28 := rfl
def resCells : Array Value := (resWords.map fun l => Value.string ⟨l.toArray⟩).toArray
theorem resString_at (k : Nat) (hk : k < 28) : ∃ (x : ByteArray), resCells[k]? = some (.string x) ∧ resWords[k]? = some x.toList := by
  have hk' : k < resWords.length := by rw [resWords_len]; exact hk
  refine ⟨⟨(resWords[k]).toArray⟩, ?_, ?_⟩
  · unfold resCells
    rw [List.getElem?_toArray, List.getElem?_map, List.getElem?_eq_getElem hk']
    rfl
  · rw [List.getElem?_eq_getElem hk', ByteArray.toList_mk]
theorem resF_no (s : List UInt8) (h : ∀ (j : Nat) (x : List UInt8), resWords[j]? = some x → (x == s) = false) : resF s = false := by
  unfold resF; rw [List.any_eq_false]
  intro x hx
  obtain ⟨j, hj⟩ := List.mem_iff_getElem?.1 hx
  rw [h j x hj]; simp
theorem resF_yes (s : List UInt8) (k : Nat) (x : List UInt8) (h : resWords[k]? = some x) (hs : (x == s) = true) : resF s = true := by
  unfold resF; rw [List.any_eq_true]
  exact ⟨x, List.mem_of_getElem? h, hs⟩
set_option maxHeartbeats 2000000 in
theorem res_impl (s : ByteArray) (w : World) : Calls Tryd.prog 56 #[.string s] w fun e w' => e = .returned (.bool (resF s.toList)) ∧ w = w' := by
  go_enter Tryd.func56, Tryd.ntmps56
  go_wp2
  all_goals
    go_ret
    refine ⟨ret_bool ?_, rfl⟩
    symm
    first
      | (refine resF_no _ fun j x hx => ?_
         have hm := List.mem_of_getElem? hx
         rw [Bool.eq_false_iff]
         intro he
         rw [beq_iff_eq] at he
         subst he
         simp_all [resWords]; done)
      | (unfold resF resWords
         simp_all [List.any_cons])
theorem res_spec (s : ByteArray) (w : World) : Calls Tryd.prog 52 #[.string s] w fun e w' => e = .returned (.bool (resF s.toList)) ∧ Below w.heap.size w w' := by
  go_enter Tryd.func52, Tryd.ntmps52
  go_wp2
  go_loopw [4] (fun i wr => ∃ k : Nat, k ≤ 28 ∧ i = .int .i64 k ∧ (∀ (j : Nat) (q : List UInt8), j < k → resWords[j]? = some q → (q == s.toList) = false) ∧ (∀ j, j < 28 → wr.cell? ⟨w.heap.size, j, none⟩ = resCells[j]?) ∧ Below w.heap.size w wr) (fun i _ => 28 - (intOf i).toNat)
  case atStart => exact ⟨0, by omega, rfl, fun j q hj => absurd hj (by omega), fun j hj => World.cell?_alloc_new _ _ _ _, (Below.refl _ _).alloc (Nat.le_refl _) _⟩
  case round =>
    obtain ⟨k, hk, rfl, hno, hcs, hb⟩ := hrel
    by_cases hlt : k < 28
    · obtain ⟨x, hx, hxl⟩ := resString_at k hlt
      have hc : wr.cell? ⟨w.heap.size, k, none⟩ = some (.string x) := (hcs k hlt).trans hx
      have HCS := Lib.hid hcs
      have HNO := Lib.hid hno
      have HX := Lib.hid hxl
      clear hcs hno hx hxl
      by_cases hq : (x.toList == s.toList) = true
      · have HQ := Lib.hid hq
        go_wp2
        go_ret
        exact ⟨ret_bool (resF_yes _ k _ HX.out HQ.out).symm, hb⟩
      · have hq' : (x.toList == s.toList) = false := by simpa using hq
        have HQ := Lib.hid hq'
        clear hq
        go_wp2
        go_roundw
        case rel =>
          refine ⟨k + 1, by omega, by go_num, fun j q hj hjq => ?_, HCS.out, hb⟩
          by_cases e : j = k
          · subst e
            rw [HX.out] at hjq
            injection hjq with hjq
            subst hjq
            exact HQ.out
          · exact HNO.out j q (by omega) hjq
        case measure => simp [intOf]; omega
    · obtain rfl : k = 28 := by omega
      have HNO := Lib.hid hno
      clear hno hcs
      go_wp2
      go_ret
      exact ⟨ret_bool (resF_no _ fun j q hq => HNO.out j q (by have := (List.getElem?_eq_some_iff.1 hq).1; rw [resWords_len] at this; exact this) hq).symm, hb⟩
end Go.Proofs.YtgbeenieacnanaaDoor
