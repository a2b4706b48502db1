/-
  Plain facts on ranges, scans and bytes; and what the functions on letters, digits and ranges of numbers return. Conditions: none.
-/
import Derived.Test.YtnkidlahmplgnaaDoorBase
namespace Go.Proofs.YtnkidlahmplgnaaDoor
open Go.ChangeShapes Go.WideShapes Go.ChangeAt Go.RowKit Go.Deep Go.Joins
open Go.ChangeMaps (open_string shut_string)
set_option linter.unusedVariables false

/-! ### plain -/
def scan (p : Nat → Bool) : Nat → Nat → Nat
  | 0, i => i
  | f + 1, i => if p i then scan p f (i + 1) else i
theorem scan_eq (p : Nat → Bool) : ∀ (f i k : Nat), i ≤ k → k ≤ i + f → (∀ j, i ≤ j → j < k → p j = true) → (k = i + f ∨ p k = false) → scan p f i = k
  | 0, i, k, h1, h2, _, _ => by simp [scan]; omega
  | f + 1, i, k, h1, h2, h3, h4 => by
    unfold scan
    by_cases hk : i = k
    · subst hk
      have : p i = false := by
        rcases h4 with h | h
        · omega
        · exact h
      simp [this]
    · rw [if_pos (h3 i (Nat.le_refl _) (by omega))]
      exact scan_eq p f (i + 1) k (by omega) (by omega) (fun j a b => h3 j (by omega) b) (by rcases h4 with h | h; exact .inl (by omega); exact .inr h)
/-- Every number below n answers yes. -/
def allB (p : Nat → Bool) (n : Nat) : Bool := (List.range n).all p
theorem allB_true {p : Nat → Bool} {n : Nat} (h : ∀ j, j < n → p j = true) : allB p n = true := by
  unfold allB; rw [List.all_eq_true]; exact fun j hj => h j (List.mem_range.1 hj)
theorem allB_false {p : Nat → Bool} {n k : Nat} (hk : k < n) (h : p k = false) : allB p n = false := by
  unfold allB; rw [Bool.eq_false_iff]; intro hc
  have := List.all_eq_true.1 hc k (List.mem_range.2 hk)
  rw [h] at this; cases this
theorem allB_get {p : Nat → Bool} {n : Nat} (h : allB p n = true) : ∀ j, j < n → p j = true := fun j hj => List.all_eq_true.1 h j (List.mem_range.2 hj)
theorem allB_congr {p q : Nat → Bool} {n : Nat} (h : ∀ j, j < n → p j = q j) : allB p n = allB q n := by
  rw [Bool.eq_iff_iff]
  exact ⟨fun a => allB_true fun j hj => (h j hj) ▸ allB_get a j hj, fun a => allB_true fun j hj => (h j hj).symm ▸ allB_get a j hj⟩
/-- The byte at an index, as a number; 0 behind the end. -/
def bI (s : ByteArray) (k : Nat) : Int := ((s.toList.getD k 0).toNat : Int)
theorem bI_eq (s : ByteArray) (k : Nat) (h : k < s.size) : bI s k = (s[k].toNat : Int) := by
  unfold bI
  rw [ByteArray.toList_eq, List.getD_eq_getElem?_getD, List.getElem?_eq_getElem (by simpa using h)]
  rfl
theorem u8_lt (c : UInt8) : (c.toNat : Int) ≤ 255 ∧ 0 ≤ (c.toNat : Int) := by have := c.toNat_lt; omega
theorem size_toList (s : ByteArray) : s.toList.length = s.size := by rw [ByteArray.toList_eq]; simp
theorem beq_len {a b : List UInt8} (h : a.length ≠ b.length) : (a == b) = false := by
  rw [beq_eq_false_iff_ne]; rintro rfl; exact h rfl

def ltrI (x : Int) : Bool := decide (65 ≤ x ∧ x ≤ 90) || decide (97 ≤ x ∧ x ≤ 122)
def digI (x : Int) : Bool := decide (48 ≤ x ∧ x ≤ 57)
def inB (x a b : Int) : Bool := decide (a ≤ x ∧ x ≤ b)
theorem ltrI_t {x : Int} (h : 65 ≤ x ∧ x ≤ 90 ∨ 97 ≤ x ∧ x ≤ 122) : ltrI x = true := by unfold ltrI; rcases h with h | h <;> simp [h]
theorem ltrI_f {x : Int} (h : ¬ (65 ≤ x ∧ x ≤ 90 ∨ 97 ≤ x ∧ x ≤ 122)) : ltrI x = false := by
  unfold ltrI; rw [decide_eq_false (fun e => h (.inl e)), decide_eq_false (fun e => h (.inr e))]; rfl
theorem digI_t {x : Int} (h : 48 ≤ x ∧ x ≤ 57) : digI x = true := by unfold digI; simp [h]
theorem digI_f {x : Int} (h : ¬ (48 ≤ x ∧ x ≤ 57)) : digI x = false := by unfold digI; rw [decide_eq_false h]
theorem inB_t {x a b : Int} (h : a ≤ x ∧ x ≤ b) : inB x a b = true := by unfold inB; simp [h]
theorem inB_f {x a b : Int} (h : ¬ (a ≤ x ∧ x ≤ b)) : inB x a b = false := by unfold inB; rw [decide_eq_false h]
theorem inB_iff {x a b : Int} : inB x a b = true ↔ a ≤ x ∧ x ≤ b := by unfold inB; exact decide_eq_true_iff
theorem ltrI_iff {x : Int} : ltrI x = true ↔ 65 ≤ x ∧ x ≤ 90 ∨ 97 ≤ x ∧ x ≤ 122 := by unfold ltrI; simp
theorem digI_iff {x : Int} : digI x = true ↔ 48 ≤ x ∧ x ≤ 57 := by unfold digI; exact decide_eq_true_iff

/-! ### walks -/
theorem inRange_any (x a b : Int) (w : World) : Calls Tryd.prog 18 #[.int .i64 x, .int .i64 a, .int .i64 b] w fun e w' => e = .returned (.bool (inB x a b)) ∧ w = w' := by
  by_cases h1 : a ≤ x
  · by_cases h2 : x ≤ b
    · go_enter Tryd.func18, Tryd.ntmps18
      go_wp2
      go_ret
      exact ⟨ret_bool (inB_t ⟨h1, h2⟩).symm, rfl⟩
    · go_enter Tryd.func18, Tryd.ntmps18
      go_wp2
      go_ret
      exact ⟨ret_bool (inB_f (by omega)).symm, rfl⟩
  · have hd : decide (a ≤ x) = false := by simpa using h1
    go_enter Tryd.func18, Tryd.ntmps18
    go_wp2
    go_ret
    exact ⟨ret_bool (inB_f (by omega)).symm, rfl⟩
theorem l1In_any (x a b : Int) (w : World) : Calls Tryd.prog 43 #[.int .i64 x, .int .i64 a, .int .i64 b] w fun e w' => e = .returned (.bool (inB x a b)) ∧ w = w' := by
  by_cases h1 : a ≤ x
  · by_cases h2 : x ≤ b
    · go_enter Tryd.func43, Tryd.ntmps43
      go_wp2
      go_ret
      exact ⟨ret_bool (inB_t ⟨h1, h2⟩).symm, rfl⟩
    · go_enter Tryd.func43, Tryd.ntmps43
      go_wp2
      go_ret
      exact ⟨ret_bool (inB_f (by omega)).symm, rfl⟩
  · have hd : decide (a ≤ x) = false := by simpa using h1
    go_enter Tryd.func43, Tryd.ntmps43
    go_wp2
    go_ret
    exact ⟨ret_bool (inB_f (by omega)).symm, rfl⟩
theorem isLetter_any (x : Int) (w : World) (h0 : 0 ≤ x) (h255 : x ≤ 255) : Calls Tryd.prog 30 #[.int .u8 x] w fun e w' => e = .returned (.bool (ltrI x)) ∧ w = w' := by
  by_cases a1 : 65 ≤ x <;> by_cases a2 : x ≤ 90 <;> by_cases a3 : 97 ≤ x <;> by_cases a4 : x ≤ 122
  all_goals first
    | omega
    | (go_enter Tryd.func30, Tryd.ntmps30
       go_wp2
       go_ret
       exact ⟨ret_bool (by first | rw [ltrI_t (by omega)] | rw [ltrI_f (by omega)]), rfl⟩)
theorem isDigit_any (x : Int) (w : World) (h0 : 0 ≤ x) (h255 : x ≤ 255) : Calls Tryd.prog 31 #[.int .u8 x] w fun e w' => e = .returned (.bool (digI x)) ∧ w = w' := by
  by_cases a1 : 48 ≤ x <;> by_cases a2 : x ≤ 57
  all_goals first
    | omega
    | (go_enter Tryd.func31, Tryd.ntmps31
       go_wp2
       go_ret
       exact ⟨ret_bool (by first | rw [digI_t (by omega)] | rw [digI_f (by omega)]), rfl⟩)
theorem l14Letter_any (x : Int) (w : World) (h0 : 0 ≤ x) (h255 : x ≤ 255) : Calls Tryd.prog 57 #[.int .u8 x] w fun e w' => e = .returned (.bool (ltrI x || x == 95)) ∧ w = w' := by
  by_cases a1 : inB x 97 122 = true
  · go_enter Tryd.func57, Tryd.ntmps57
    go_wp2_with (go_at_call 43; refine (l1In_any _ _ _ _).mono ?_; rintro e w' ⟨rfl, rfl⟩)
    go_ret
    have b1 := inB_iff.1 a1
    exact ⟨ret_bool (by rw [ltrI_t (by omega)]; rfl), rfl⟩
  · have a1' : inB x 97 122 = false := by simpa using a1
    by_cases a2 : inB x 65 90 = true
    · go_enter Tryd.func57, Tryd.ntmps57
      go_wp2_with (go_at_call 43; refine (l1In_any _ _ _ _).mono ?_; rintro e w' ⟨rfl, rfl⟩)
      go_ret
      have b1 := inB_iff.1 a2
      exact ⟨ret_bool (by rw [ltrI_t (by omega)]; rfl), rfl⟩
    · have a2' : inB x 65 90 = false := by simpa using a2
      go_enter Tryd.func57, Tryd.ntmps57
      go_wp2_with (go_at_call 43; refine (l1In_any _ _ _ _).mono ?_; rintro e w' ⟨rfl, rfl⟩)
      go_ret
      rw [inB_iff] at a1 a2
      exact ⟨ret_bool (by rw [ltrI_f (by omega)]; rfl), rfl⟩
theorem l14Digit_any (x : Int) (w : World) (h0 : 0 ≤ x) (h255 : x ≤ 255) : Calls Tryd.prog 58 #[.int .u8 x] w fun e w' => e = .returned (.bool (digI x)) ∧ w = w' := by
  go_enter Tryd.func58, Tryd.ntmps58
  go_wp2_with (go_at_call 43; refine (l1In_any _ _ _ _).mono ?_; rintro e w' ⟨rfl, rfl⟩)
  go_ret
  exact ⟨ret_bool rfl, rfl⟩
end Go.Proofs.YtnkidlahmplgnaaDoor
