/-
  Parts of the proof: Str, Name. Conditions: none.
-/
import Derived.Test.YtdmbhmhfjappcaaGreatDoorQGBasePsV
namespace Go.Proofs.YtdmbhmhfjappcaaGreatDoor
open Go.ChangeShapes Go.WideShapes Go.ChangeAt Go.RowKit Go.Deep Go.Joins
open Go.ChangeMaps (open_string shut_string)
set_option linter.unusedVariables false

/-! ### plain -/
def scan (p : Nat → Bool) : Nat → Nat → Nat
  | 0, i => i
  | f + 1, i => if p i then scan p f (i + 1) else i
theorem scan_eq (p : Nat → Bool) : ∀ (f i k : Nat), i ≤ k → k ≤ i + f → (∀ j, i ≤ j → j < k → p j = true) → (k = i + f ∨ p k = false) → scan p f i = k
  | 0, i, k, h1, h2, _, _ => by simp [scan]; omega
  | f + 1, i, k, h1, h2, h3, h4 => by
    unfold scan
    by_cases hk : i = k
    · subst hk
      have : p i = false := by
        rcases h4 with h | h
        · omega
        · exact h
      simp [this]
    · rw [if_pos (h3 i (Nat.le_refl _) (by omega))]
      exact scan_eq p f (i + 1) k (by omega) (by omega) (fun j a b => h3 j (by omega) b) (by rcases h4 with h | h; exact .inl (by omega); exact .inr h)
/-- Every number below n answers yes. -/
def allB (p : Nat → Bool) (n : Nat) : Bool := (List.range n).all p
theorem allB_true {p : Nat → Bool} {n : Nat} (h : ∀ j, j < n → p j = true) : allB p n = true := by
  unfold allB; rw [List.all_eq_true]; exact fun j hj => h j (List.mem_range.1 hj)
theorem allB_false {p : Nat → Bool} {n k : Nat} (hk : k < n) (h : p k = false) : allB p n = false := by
  unfold allB; rw [Bool.eq_false_iff]; intro hc
  have := List.all_eq_true.1 hc k (List.mem_range.2 hk)
  rw [h] at this; cases this
theorem allB_get {p : Nat → Bool} {n : Nat} (h : allB p n = true) : ∀ j, j < n → p j = true := fun j hj => List.all_eq_true.1 h j (List.mem_range.2 hj)
theorem allB_congr {p q : Nat → Bool} {n : Nat} (h : ∀ j, j < n → p j = q j) : allB p n = allB q n := by
  rw [Bool.eq_iff_iff]
  exact ⟨fun a => allB_true fun j hj => (h j hj) ▸ allB_get a j hj, fun a => allB_true fun j hj => (h j hj).symm ▸ allB_get a j hj⟩
/-- The byte at an index, as a number; 0 behind the end. -/
def bI (s : ByteArray) (k : Nat) : Int := ((s.toList.getD k 0).toNat : Int)
theorem bI_eq (s : ByteArray) (k : Nat) (h : k < s.size) : bI s k = (s[k].toNat : Int) := by
  unfold bI
  rw [ByteArray.toList_eq, List.getD_eq_getElem?_getD, List.getElem?_eq_getElem (by simpa using h)]
  rfl
theorem u8_lt (c : UInt8) : (c.toNat : Int) ≤ 255 ∧ 0 ≤ (c.toNat : Int) := by have := c.toNat_lt; omega
theorem size_toList (s : ByteArray) : s.toList.length = s.size := by rw [ByteArray.toList_eq]; simp
theorem beq_len {a b : List UInt8} (h : a.length ≠ b.length) : (a == b) = false := by
  rw [beq_eq_false_iff_ne]; rintro rfl; exact h rfl

def ltrI (x : Int) : Bool := decide (65 ≤ x ∧ x ≤ 90) || decide (97 ≤ x ∧ x ≤ 122)
def digI (x : Int) : Bool := decide (48 ≤ x ∧ x ≤ 57)
def inB (x a b : Int) : Bool := decide (a ≤ x ∧ x ≤ b)
theorem ltrI_t {x : Int} (h : 65 ≤ x ∧ x ≤ 90 ∨ 97 ≤ x ∧ x ≤ 122) : ltrI x = true := by unfold ltrI; rcases h with h | h <;> simp [h]
theorem ltrI_f {x : Int} (h : ¬ (65 ≤ x ∧ x ≤ 90 ∨ 97 ≤ x ∧ x ≤ 122)) : ltrI x = false := by
  unfold ltrI; rw [decide_eq_false (fun e => h (.inl e)), decide_eq_false (fun e => h (.inr e))]; rfl
theorem digI_t {x : Int} (h : 48 ≤ x ∧ x ≤ 57) : digI x = true := by unfold digI; simp [h]
theorem digI_f {x : Int} (h : ¬ (48 ≤ x ∧ x ≤ 57)) : digI x = false := by unfold digI; rw [decide_eq_false h]
theorem inB_t {x a b : Int} (h : a ≤ x ∧ x ≤ b) : inB x a b = true := by unfold inB; simp [h]
theorem inB_f {x a b : Int} (h : ¬ (a ≤ x ∧ x ≤ b)) : inB x a b = false := by unfold inB; rw [decide_eq_false h]
theorem inB_iff {x a b : Int} : inB x a b = true ↔ a ≤ x ∧ x ≤ b := by unfold inB; exact decide_eq_true_iff
theorem ltrI_iff {x : Int} : ltrI x = true ↔ 65 ≤ x ∧ x ≤ 90 ∨ 97 ≤ x ∧ x ≤ 122 := by unfold ltrI; simp
theorem digI_iff {x : Int} : digI x = true ↔ 48 ≤ x ∧ x ≤ 57 := by unfold digI; exact decide_eq_true_iff

/-! ### walks -/
theorem inRange_any (x a b : Int) (w : World) : Calls Tryz.prog 22 #[.int .i64 x, .int .i64 a, .int .i64 b] w fun e w' => e = .returned (.bool (inB x a b)) ∧ w = w' := by
  by_cases h1 : a ≤ x
  · by_cases h2 : x ≤ b
    · go_enter Tryz.func22, Tryz.ntmps22
      go_wp2
      go_ret
      exact ⟨ret_bool (inB_t ⟨h1, h2⟩).symm, rfl⟩
    · go_enter Tryz.func22, Tryz.ntmps22
      go_wp2
      go_ret
      exact ⟨ret_bool (inB_f (by omega)).symm, rfl⟩
  · have hd : decide (a ≤ x) = false := by simpa using h1
    go_enter Tryz.func22, Tryz.ntmps22
    go_wp2
    go_ret
    exact ⟨ret_bool (inB_f (by omega)).symm, rfl⟩
theorem l1In_any (x a b : Int) (w : World) : Calls Tryz.prog 28 #[.int .i64 x, .int .i64 a, .int .i64 b] w fun e w' => e = .returned (.bool (inB x a b)) ∧ w = w' := by
  by_cases h1 : a ≤ x
  · by_cases h2 : x ≤ b
    · go_enter Tryz.func28, Tryz.ntmps28
      go_wp2
      go_ret
      exact ⟨ret_bool (inB_t ⟨h1, h2⟩).symm, rfl⟩
    · go_enter Tryz.func28, Tryz.ntmps28
      go_wp2
      go_ret
      exact ⟨ret_bool (inB_f (by omega)).symm, rfl⟩
  · have hd : decide (a ≤ x) = false := by simpa using h1
    go_enter Tryz.func28, Tryz.ntmps28
    go_wp2
    go_ret
    exact ⟨ret_bool (inB_f (by omega)).symm, rfl⟩
theorem isLetter_any (x : Int) (w : World) (h0 : 0 ≤ x) (h255 : x ≤ 255) : Calls Tryz.prog 98 #[.int .u8 x] w fun e w' => e = .returned (.bool (ltrI x)) ∧ w = w' := by
  by_cases a1 : 65 ≤ x <;> by_cases a2 : x ≤ 90 <;> by_cases a3 : 97 ≤ x <;> by_cases a4 : x ≤ 122
  all_goals first
    | omega
    | (go_enter Tryz.func98, Tryz.ntmps98
       go_wp2
       go_ret
       exact ⟨ret_bool (by first | rw [ltrI_t (by omega)] | rw [ltrI_f (by omega)]), rfl⟩)
theorem isDigit_any (x : Int) (w : World) (h0 : 0 ≤ x) (h255 : x ≤ 255) : Calls Tryz.prog 99 #[.int .u8 x] w fun e w' => e = .returned (.bool (digI x)) ∧ w = w' := by
  by_cases a1 : 48 ≤ x <;> by_cases a2 : x ≤ 57
  all_goals first
    | omega
    | (go_enter Tryz.func99, Tryz.ntmps99
       go_wp2
       go_ret
       exact ⟨ret_bool (by first | rw [digI_t (by omega)] | rw [digI_f (by omega)]), rfl⟩)
theorem l14Letter_any (x : Int) (w : World) (h0 : 0 ≤ x) (h255 : x ≤ 255) : Calls Tryz.prog 89 #[.int .u8 x] w fun e w' => e = .returned (.bool (ltrI x || x == 95)) ∧ w = w' := by
  by_cases a1 : inB x 97 122 = true
  · go_enter Tryz.func89, Tryz.ntmps89
    go_wp2_with (go_at_call 28; refine (l1In_any _ _ _ _).mono ?_; rintro e w' ⟨rfl, rfl⟩)
    go_ret
    have b1 := inB_iff.1 a1
    exact ⟨ret_bool (by rw [ltrI_t (by omega)]; rfl), rfl⟩
  · have a1' : inB x 97 122 = false := by simpa using a1
    by_cases a2 : inB x 65 90 = true
    · go_enter Tryz.func89, Tryz.ntmps89
      go_wp2_with (go_at_call 28; refine (l1In_any _ _ _ _).mono ?_; rintro e w' ⟨rfl, rfl⟩)
      go_ret
      have b1 := inB_iff.1 a2
      exact ⟨ret_bool (by rw [ltrI_t (by omega)]; rfl), rfl⟩
    · have a2' : inB x 65 90 = false := by simpa using a2
      go_enter Tryz.func89, Tryz.ntmps89
      go_wp2_with (go_at_call 28; refine (l1In_any _ _ _ _).mono ?_; rintro e w' ⟨rfl, rfl⟩)
      go_ret
      rw [inB_iff] at a1 a2
      exact ⟨ret_bool (by rw [ltrI_f (by omega)]; rfl), rfl⟩
theorem l14Digit_any (x : Int) (w : World) (h0 : 0 ≤ x) (h255 : x ≤ 255) : Calls Tryz.prog 90 #[.int .u8 x] w fun e w' => e = .returned (.bool (digI x)) ∧ w = w' := by
  go_enter Tryz.func90, Tryz.ntmps90
  go_wp2_with (go_at_call 28; refine (l1In_any _ _ _ _).mono ?_; rintro e w' ⟨rfl, rfl⟩)
  go_ret
  exact ⟨ret_bool rfl, rfl⟩
def resWords : List (List UInt8) := [[101, 99, 104, 111], [105, 102], [101, 108, 115, 101], [119, 104, 105, 108, 101], [102, 111, 114, 101, 97, 99, 104], [97, 115], [98, 114, 101, 97, 107], [99, 111, 110, 116, 105, 110, 117, 101], [114, 101, 116, 117, 114, 110], [103, 108, 111, 98, 97, 108], [117, 110, 115, 101, 116], [116, 104, 114, 111, 119], [116, 114, 121], [99, 97, 116, 99, 104], [102, 105, 110, 97, 108, 108, 121], [121, 105, 101, 108, 100], [105, 110, 99, 108, 117, 100, 101], [102, 117, 110, 99, 116, 105, 111, 110], [99, 108, 97, 115, 115], [116, 114, 97, 105, 116], [101, 120, 116, 101, 110, 100, 115], [117, 115, 101], [112, 114, 105, 118, 97, 116, 101], [115, 116, 97, 116, 105, 99], [110, 101, 119], [116, 114, 117, 101], [102, 97, 108, 115, 101], [110, 117, 108, 108]]
def resF (s : List UInt8) : Bool := resWords.any fun x => x == s
theorem resWords_len : resWords.length = 28 := rfl
def resCells : Array Value := (resWords.map fun l => Value.string ⟨l.toArray⟩).toArray
theorem resString_at (k : Nat) (hk : k < 28) : ∃ (x : ByteArray), resCells[k]? = some (.string x) ∧ resWords[k]? = some x.toList := by
  have hk' : k < resWords.length := by rw [resWords_len]; exact hk
  refine ⟨⟨(resWords[k]).toArray⟩, ?_, ?_⟩
  · unfold resCells
    rw [List.getElem?_toArray, List.getElem?_map, List.getElem?_eq_getElem hk']
    rfl
  · rw [List.getElem?_eq_getElem hk', ByteArray.toList_mk]
theorem resF_no (s : List UInt8) (h : ∀ (j : Nat) (x : List UInt8), resWords[j]? = some x → (x == s) = false) : resF s = false := by
  unfold resF; rw [List.any_eq_false]
  intro x hx
  obtain ⟨j, hj⟩ := List.mem_iff_getElem?.1 hx
  rw [h j x hj]; simp
theorem resF_yes (s : List UInt8) (k : Nat) (x : List UInt8) (h : resWords[k]? = some x) (hs : (x == s) = true) : resF s = true := by
  unfold resF; rw [List.any_eq_true]
  exact ⟨x, List.mem_of_getElem? h, hs⟩
set_option maxHeartbeats 2000000 in
theorem res_impl (s : ByteArray) (w : World) : Calls Tryz.prog 40 #[.string s] w fun e w' => e = .returned (.bool (resF s.toList)) ∧ w = w' := by
  go_enter Tryz.func40, Tryz.ntmps40
  go_wp2
  all_goals
    go_ret
    refine ⟨ret_bool ?_, rfl⟩
    symm
    first
      | (refine resF_no _ fun j x hx => ?_
         have hm := List.mem_of_getElem? hx
         rw [Bool.eq_false_iff]
         intro he
         rw [beq_iff_eq] at he
         subst he
         simp_all [resWords]; done)
      | (unfold resF resWords
         simp_all [List.any_cons])
theorem res_spec (s : ByteArray) (w : World) : Calls Tryz.prog 34 #[.string s] w fun e w' => e = .returned (.bool (resF s.toList)) ∧ Below w.heap.size w w' := by
  go_enter Tryz.func34, Tryz.ntmps34
  go_wp2
  go_loopw [4] (fun i wr => ∃ k : Nat, k ≤ 28 ∧ i = .int .i64 k ∧ (∀ (j : Nat) (q : List UInt8), j < k → resWords[j]? = some q → (q == s.toList) = false) ∧ (∀ j, j < 28 → wr.cell? ⟨w.heap.size, j, none⟩ = resCells[j]?) ∧ Below w.heap.size w wr) (fun i _ => 28 - (intOf i).toNat)
  case atStart => exact ⟨0, by omega, rfl, fun j q hj => absurd hj (by omega), fun j hj => World.cell?_alloc_new _ _ _ _, (Below.refl _ _).alloc (Nat.le_refl _) _⟩
  case round =>
    obtain ⟨k, hk, rfl, hno, hcs, hb⟩ := hrel
    by_cases hlt : k < 28
    · obtain ⟨x, hx, hxl⟩ := resString_at k hlt
      have hc : wr.cell? ⟨w.heap.size, k, none⟩ = some (.string x) := (hcs k hlt).trans hx
      have HCS := Lib.hid hcs
      have HNO := Lib.hid hno
      have HX := Lib.hid hxl
      clear hcs hno hx hxl
      by_cases hq : (x.toList == s.toList) = true
      · have HQ := Lib.hid hq
        go_wp2
        go_ret
        exact ⟨ret_bool (resF_yes _ k _ HX.out HQ.out).symm, hb⟩
      · have hq' : (x.toList == s.toList) = false := by simpa using hq
        have HQ := Lib.hid hq'
        clear hq
        go_wp2
        go_roundw
        case rel =>
          refine ⟨k + 1, by omega, by go_num, fun j q hj hjq => ?_, HCS.out, hb⟩
          by_cases e : j = k
          · subst e
            rw [HX.out] at hjq
            injection hjq with hjq
            subst hjq
            exact HQ.out
          · exact HNO.out j q (by omega) hjq
        case measure => simp [intOf]; omega
    · obtain rfl : k = 28 := by omega
      have HNO := Lib.hid hno
      clear hno hcs
      go_wp2
      go_ret
      exact ⟨ret_bool (resF_no _ fun j q hq => HNO.out j q (by have := (List.getElem?_eq_some_iff.1 hq).1; rw [resWords_len] at this; exact this) hq).symm, hb⟩
end Go.Proofs.YtdmbhmhfjappcaaGreatDoor
namespace Go.Proofs.YtdmbhmhfjappcaaGreatDoor
open Go.ChangeShapes Go.WideShapes Go.ChangeAt Go.RowKit Go.Deep Go.Joins
open Go.ChangeMaps (open_string shut_string)
set_option linter.unusedVariables false

def nmP (s : ByteArray) (k : Nat) : Bool := ltrI (bI s k) || bI s k == 95 || (decide (0 < k) && digI (bI s k))
def nmLen (s : ByteArray) : Nat := scan (nmP s) s.size 0
def nameF (s : ByteArray) : Bool := decide (1 ≤ s.size) && decide (s.size ≤ 20) && allB (nmP s) s.size
def goodF (s : ByteArray) : Bool := nameF s && !resF s.toList
theorem nmLen_eq (s : ByteArray) (k : Nat) (hk : k ≤ s.size) (h : ∀ j, j < k → nmP s j = true) (he : k = s.size ∨ nmP s k = false) : nmLen s = k :=
  scan_eq _ _ _ _ (Nat.zero_le _) (by omega) (fun j _ => h j) (by rcases he with h | h; exact .inl (by omega); exact .inr h)
theorem scan_le (p : Nat → Bool) : ∀ (f i : Nat), scan p f i ≤ i + f ∧ i ≤ scan p f i ∧ (∀ j, i ≤ j → j < scan p f i → p j = true) ∧ (scan p f i = i + f ∨ p (scan p f i) = false)
  | 0, i => ⟨by simp [scan], by simp [scan], fun j a b => by simp [scan] at b; omega, .inl rfl⟩
  | f + 1, i => by
    unfold scan
    by_cases hp : p i = true
    · rw [if_pos hp]
      obtain ⟨a, b, c, d⟩ := scan_le p f (i + 1)
      refine ⟨by omega, by omega, fun j h1 h2 => ?_, by rcases d with d | d; exact .inl (by omega); exact .inr d⟩
      by_cases e : j = i
      · subst e; exact hp
      · exact c j (by omega) h2
    · rw [if_neg hp]
      exact ⟨by omega, Nat.le_refl _, fun j a b => by omega, .inr (by simpa using hp)⟩
theorem nmLen_all (s : ByteArray) (h : allB (nmP s) s.size = true) : nmLen s = s.size := nmLen_eq s _ (Nat.le_refl _) (allB_get h) (.inl rfl)
theorem nmLen_lt (s : ByteArray) (h : allB (nmP s) s.size = false) : nmLen s < s.size := by
  obtain ⟨a, b, c, d⟩ := scan_le (nmP s) s.size 0
  rcases Nat.lt_or_ge (nmLen s) s.size with hlt | hge
  · exact hlt
  · have : allB (nmP s) s.size = true := allB_true fun j hj => c j (by omega) (by unfold nmLen at hge; omega)
    rw [h] at this; cases this
theorem nmP_let {s : ByteArray} {k : Nat} (hk : k < s.size) (h : ltrI (s[k].toNat : Int) = true) : nmP s k = true := by unfold nmP; rw [bI_eq s k hk, h]; rfl
theorem nmP_95 {s : ByteArray} {k : Nat} (hk : k < s.size) (h : ((s[k].toNat : Int) == 95) = true) : nmP s k = true := by unfold nmP; rw [bI_eq s k hk, h]; simp
theorem nmP_dig {s : ByteArray} {k : Nat} (hk : k < s.size) (h0 : 0 < k) (h : digI (s[k].toNat : Int) = true) : nmP s k = true := by unfold nmP; rw [bI_eq s k hk, h]; simp [h0]
theorem nmP_no {s : ByteArray} {k : Nat} (hk : k < s.size) (h1 : ltrI (s[k].toNat : Int) = false) (h2 : ((s[k].toNat : Int) == 95) = false) (h3 : k = 0 ∨ digI (s[k].toNat : Int) = false) : nmP s k = false := by
  unfold nmP; rw [bI_eq s k hk, h1, h2]
  rcases h3 with h | h
  · subst h; rfl
  · rw [h]; simp

theorem nameLength_any (s : ByteArray) (n : Nat) (hn : nmLen s = n) (w : World) (hs : s.size ≤ 9223372036854775807) : Calls Tryz.prog 74 #[.string s] w fun e w' => e = .returned (.int .i64 n) ∧ w = w' := by
  have HN := Lib.hid hn
  clear hn
  go_enter Tryz.func74, Tryz.ntmps74
  go_wp2
  go_loop [3] (fun i => ∃ k : Nat, k ≤ s.size ∧ i = .int .i64 k ∧ ∀ j, j < k → nmP s j = true) (fun i => s.size - (intOf i).toNat)
  case atStart => exact ⟨0, Nat.zero_le _, rfl, fun j hj => absurd hj (by omega)⟩
  case round =>
    obtain ⟨k, hk, rfl, hall⟩ := hrel
    have HALL := Lib.hid hall
    clear hall
    by_cases hlt : k < s.size
    · have hx1 := (u8_lt s[k]).1
      have hx0 := (u8_lt s[k]).2
      have go_on : nmP s k = true → ∀ j, j < k + 1 → nmP s j = true := fun h j hj => by
        by_cases e : j = k
        · subst e; exact h
        · exact HALL.out j (by omega)
      have GO := Lib.hid go_on
      clear go_on
      have out_ : nmP s k = false → (k : Int) = n := fun h => by rw [← HN.out, nmLen_eq s k hk HALL.out (.inr h)]
      have OUT := Lib.hid out_
      clear out_
      by_cases hl : ltrI (s[k].toNat : Int) = true
      · go_wp2_with (first | (go_at_call 98; refine (isLetter_any _ _ (by omega) (by omega)).mono ?_; rintro e w' ⟨rfl, rfl⟩) | (go_at_call 99; refine (isDigit_any _ _ (by omega) (by omega)).mono ?_; rintro e w' ⟨rfl, rfl⟩))
        go_round
        case rel => exact ⟨k + 1, by omega, by go_num, GO.out (nmP_let hlt hl)⟩
        case measure => simp [intOf]; omega
      · have hl' : ltrI (s[k].toNat : Int) = false := by simpa using hl
        clear hl
        by_cases h95 : ((s[k].toNat : Int) == 95) = true
        · go_wp2_with (first | (go_at_call 98; refine (isLetter_any _ _ (by omega) (by omega)).mono ?_; rintro e w' ⟨rfl, rfl⟩) | (go_at_call 99; refine (isDigit_any _ _ (by omega) (by omega)).mono ?_; rintro e w' ⟨rfl, rfl⟩))
          go_round
          case rel => exact ⟨k + 1, by omega, by go_num, GO.out (nmP_95 hlt h95)⟩
          case measure => simp [intOf]; omega
        · have h95' : ((s[k].toNat : Int) == 95) = false := by simpa using h95
          clear h95
          by_cases hk0 : 0 < k
          · by_cases hd : digI (s[k].toNat : Int) = true
            · go_wp2_with (first | (go_at_call 98; refine (isLetter_any _ _ (by omega) (by omega)).mono ?_; rintro e w' ⟨rfl, rfl⟩) | (go_at_call 99; refine (isDigit_any _ _ (by omega) (by omega)).mono ?_; rintro e w' ⟨rfl, rfl⟩))
              go_round
              case rel => exact ⟨k + 1, by omega, by go_num, GO.out (nmP_dig hlt hk0 hd)⟩
              case measure => simp [intOf]; omega
            · have hd' : digI (s[k].toNat : Int) = false := by simpa using hd
              clear hd
              go_wp2_with (first | (go_at_call 98; refine (isLetter_any _ _ (by omega) (by omega)).mono ?_; rintro e w' ⟨rfl, rfl⟩) | (go_at_call 99; refine (isDigit_any _ _ (by omega) (by omega)).mono ?_; rintro e w' ⟨rfl, rfl⟩))
              go_ret
              exact ⟨ret_int (OUT.out (nmP_no hlt hl' h95' (.inr hd'))), rfl⟩
          · obtain rfl : k = 0 := by omega
            go_wp2_with (first | (go_at_call 98; refine (isLetter_any _ _ (by omega) (by omega)).mono ?_; rintro e w' ⟨rfl, rfl⟩) | (go_at_call 99; refine (isDigit_any _ _ (by omega) (by omega)).mono ?_; rintro e w' ⟨rfl, rfl⟩))
            go_ret
            exact ⟨ret_int (OUT.out (nmP_no hlt hl' h95' (.inl rfl))), rfl⟩
    · have hd : decide ((k : Int) < (s.size : Int)) = false := by simpa using hlt
      have hd2 : decide (k < s.size) = false := by simpa using hlt
      obtain rfl : k = s.size := by omega
      go_wp2_with (first | (go_at_call 98; refine (isLetter_any _ _ (by omega) (by omega)).mono ?_; rintro e w' ⟨rfl, rfl⟩) | (go_at_call 99; refine (isDigit_any _ _ (by omega) (by omega)).mono ?_; rintro e w' ⟨rfl, rfl⟩))
      go_ret
      exact ⟨ret_int (by rw [← HN.out, nmLen_eq s _ (Nat.le_refl _) HALL.out (.inl rfl)]), rfl⟩
theorem l14Name_any (s : ByteArray) (n : Nat) (hn : nmLen s = n) (w : World) (hs : s.size ≤ 9223372036854775807) : Calls Tryz.prog 61 #[.string s, .int .i64 0] w fun e w' => e = .returned (.int .i64 n) ∧ w = w' := by
  have HN := Lib.hid hn
  clear hn
  go_enter Tryz.func61, Tryz.ntmps61
  go_wp2
  go_loop [5] (fun i => ∃ k : Nat, k ≤ s.size ∧ i = .int .i64 k ∧ ∀ j, j < k → nmP s j = true) (fun i => s.size - (intOf i).toNat)
  case atStart => exact ⟨0, Nat.zero_le _, rfl, fun j hj => absurd hj (by omega)⟩
  case round =>
    obtain ⟨k, hk, rfl, hall⟩ := hrel
    have HALL := Lib.hid hall
    clear hall
    by_cases hlt : k < s.size
    · have hx1 := (u8_lt s[k]).1
      have hx0 := (u8_lt s[k]).2
      have go_on : nmP s k = true → ∀ j, j < k + 1 → nmP s j = true := fun h j hj => by
        by_cases e : j = k
        · subst e; exact h
        · exact HALL.out j (by omega)
      have GO := Lib.hid go_on
      clear go_on
      have out_ : nmP s k = false → (k : Int) = n := fun h => by rw [← HN.out, nmLen_eq s k hk HALL.out (.inr h)]
      have OUT := Lib.hid out_
      clear out_
      by_cases hl : (ltrI (s[k].toNat : Int) || (s[k].toNat : Int) == 95) = true
      · have hyes : nmP s k = true := by
          rcases (Bool.or_eq_true _ _).mp hl with h | h
          · exact nmP_let hlt h
          · exact nmP_95 hlt h
        have HY := Lib.hid hyes
        clear hyes
        go_wp2_with (first | (go_at_call 89; refine (l14Letter_any _ _ (by omega) (by omega)).mono ?_; rintro e w' ⟨rfl, rfl⟩) | (go_at_call 90; refine (l14Digit_any _ _ (by omega) (by omega)).mono ?_; rintro e w' ⟨rfl, rfl⟩))
        all_goals
          go_round
          case rel => exact ⟨k + 1, by omega, by go_num, GO.out HY.out⟩
          case measure => simp [intOf]; omega
      · have hl' : (ltrI (s[k].toNat : Int) || (s[k].toNat : Int) == 95) = false := by simpa using hl
        have hl1 : ltrI (s[k].toNat : Int) = false := (Bool.or_eq_false_iff.mp hl').1
        have hl2 : ((s[k].toNat : Int) == 95) = false := (Bool.or_eq_false_iff.mp hl').2
        clear hl hl'
        by_cases hk0 : 0 < k
        · by_cases hd : digI (s[k].toNat : Int) = true
          · go_wp2_with (first | (go_at_call 89; refine (l14Letter_any _ _ (by omega) (by omega)).mono ?_; rintro e w' ⟨rfl, rfl⟩) | (go_at_call 90; refine (l14Digit_any _ _ (by omega) (by omega)).mono ?_; rintro e w' ⟨rfl, rfl⟩))
            go_round
            case rel => exact ⟨k + 1, by omega, by go_num, GO.out (nmP_dig hlt hk0 hd)⟩
            case measure => simp [intOf]; omega
          · have hd' : digI (s[k].toNat : Int) = false := by simpa using hd
            clear hd
            go_wp2_with (first | (go_at_call 89; refine (l14Letter_any _ _ (by omega) (by omega)).mono ?_; rintro e w' ⟨rfl, rfl⟩) | (go_at_call 90; refine (l14Digit_any _ _ (by omega) (by omega)).mono ?_; rintro e w' ⟨rfl, rfl⟩))
            go_ret
            exact ⟨ret_int (OUT.out (nmP_no hlt hl1 hl2 (.inr hd'))), rfl⟩
        · obtain rfl : k = 0 := by omega
          go_wp2_with (first | (go_at_call 89; refine (l14Letter_any _ _ (by omega) (by omega)).mono ?_; rintro e w' ⟨rfl, rfl⟩) | (go_at_call 90; refine (l14Digit_any _ _ (by omega) (by omega)).mono ?_; rintro e w' ⟨rfl, rfl⟩))
          go_ret
          exact ⟨ret_int (OUT.out (nmP_no hlt hl1 hl2 (.inl rfl))), rfl⟩
    · have hd : decide ((k : Int) < (s.size : Int)) = false := by simpa using hlt
      have hd2 : decide (k < s.size) = false := by simpa using hlt
      obtain rfl : k = s.size := by omega
      go_wp2_with (first | (go_at_call 89; refine (l14Letter_any _ _ (by omega) (by omega)).mono ?_; rintro e w' ⟨rfl, rfl⟩) | (go_at_call 90; refine (l14Digit_any _ _ (by omega) (by omega)).mono ?_; rintro e w' ⟨rfl, rfl⟩))
      go_ret
      exact ⟨ret_int (by rw [← HN.out, nmLen_eq s _ (Nat.le_refl _) HALL.out (.inl rfl)]), rfl⟩
theorem name_impl (s : ByteArray) (w : World) (hs : s.size ≤ 9223372036854775807) : Calls Tryz.prog 39 #[.string s] w fun e w' => e = .returned (.bool (nameF s)) ∧ w = w' := by
  by_cases h20 : s.size ≤ 20
  · by_cases h0 : s.size = 0
    · have he : s.toList.isEmpty = true := by rw [List.isEmpty_iff]; exact List.eq_nil_of_length_eq_zero (by rw [size_toList, h0])
      have hn : nmLen s = 0 := by have := scan_le (nmP s) s.size 0; unfold nmLen; omega
      have h00 : ((0 : Nat) : Int) = (s.size : Int) := by omega
      have hi : ((s.size : Int) == 0) = true := by rw [h0]; rfl
      have hi' : ((0 : Int) == (s.size : Int)) = true := by rw [h0]; rfl
      have hf : nameF s = false := by unfold nameF; rw [h0]; rfl
      have HF := Lib.hid hf
      have HNN := Lib.hid hn
      clear hf hn h00 h0
      go_enter Tryz.func39, Tryz.ntmps39
      go_wp2_with (go_at_call 74; refine (nameLength_any _ 0 HNN.out _ (by omega)).mono ?_; rintro e w' ⟨rfl, rfl⟩)
      go_ret
      exact ⟨ret_bool HF.out.symm, rfl⟩
    · have he : s.toList.isEmpty = false := by
        rw [Bool.eq_false_iff]; intro h; rw [List.isEmpty_iff] at h; exact h0 (by rw [← size_toList, h]; rfl)
      by_cases ha : allB (nmP s) s.size = true
      · have hf : nameF s = true := by unfold nameF; rw [ha, decide_eq_true (by omega : 1 ≤ s.size), decide_eq_true h20]; rfl
        have HF := Lib.hid hf
        have HNN := Lib.hid (nmLen_all s ha)
        clear hf ha h0
        go_enter Tryz.func39, Tryz.ntmps39
        go_wp2_with (go_at_call 74; refine (nameLength_any _ s.size HNN.out _ (by omega)).mono ?_; rintro e w' ⟨rfl, rfl⟩)
        go_ret
        exact ⟨ret_bool HF.out.symm, rfl⟩
      · have ha' : allB (nmP s) s.size = false := by simpa using ha
        have hlt := nmLen_lt s ha'
        have hf : nameF s = false := by unfold nameF; rw [ha']; simp
        have HF := Lib.hid hf
        obtain ⟨n, hn⟩ : ∃ n, nmLen s = n := ⟨_, rfl⟩
        have hlt' : n < s.size := by omega
        have hne : ((n : Int) == (s.size : Int)) = false := by rw [beq_eq_false_iff_ne]; omega
        have hne2 : (n == s.size) = false := by rw [beq_eq_false_iff_ne]; omega
        have HNN := Lib.hid hn
        clear hf ha ha' h0 hn hlt
        go_enter Tryz.func39, Tryz.ntmps39
        go_wp2_with (go_at_call 74; refine (nameLength_any _ n HNN.out _ (by omega)).mono ?_; rintro e w' ⟨rfl, rfl⟩)
        go_ret
        exact ⟨ret_bool HF.out.symm, rfl⟩
  · have hd : decide ((s.size : Int) ≤ 20) = false := by simpa using (by omega : ¬ ((s.size : Int) ≤ 20))
    have hf : nameF s = false := by unfold nameF; rw [decide_eq_false h20]; simp
    have HF := Lib.hid hf
    clear hf
    go_enter Tryz.func39, Tryz.ntmps39
    go_wp2_with fail
    go_ret
    exact ⟨ret_bool HF.out.symm, rfl⟩
theorem name_spec (s : ByteArray) (w : World) (hs : s.size ≤ 9223372036854775807) : Calls Tryz.prog 33 #[.string s] w fun e w' => e = .returned (.bool (nameF s)) ∧ w = w' := by
  by_cases h1 : 1 ≤ s.size
  · by_cases h20 : s.size ≤ 20
    · by_cases ha : allB (nmP s) s.size = true
      · have hf : nameF s = true := by unfold nameF; rw [ha, decide_eq_true (by omega : 1 ≤ s.size), decide_eq_true h20]; rfl
        have HF := Lib.hid hf
        have HNN := Lib.hid (nmLen_all s ha)
        clear hf ha
        go_enter Tryz.func33, Tryz.ntmps33
        go_wp2_with (go_at_call 61; refine (l14Name_any _ s.size HNN.out _ (by omega)).mono ?_; rintro e w' ⟨rfl, rfl⟩)
        go_ret
        exact ⟨ret_bool HF.out.symm, rfl⟩
      · have ha' : allB (nmP s) s.size = false := by simpa using ha
        have hlt := nmLen_lt s ha'
        have hf : nameF s = false := by unfold nameF; rw [ha']; simp
        have HF := Lib.hid hf
        obtain ⟨n, hn⟩ : ∃ n, nmLen s = n := ⟨_, rfl⟩
        have hlt' : n < s.size := by omega
        have hne : ((n : Int) == (s.size : Int)) = false := by rw [beq_eq_false_iff_ne]; omega
        have hne2 : (n == s.size) = false := by rw [beq_eq_false_iff_ne]; omega
        have HNN := Lib.hid hn
        clear hf ha ha' hn hlt
        go_enter Tryz.func33, Tryz.ntmps33
        go_wp2_with (go_at_call 61; refine (l14Name_any _ n HNN.out _ (by omega)).mono ?_; rintro e w' ⟨rfl, rfl⟩)
        go_ret
        exact ⟨ret_bool HF.out.symm, rfl⟩
    · have hd : decide ((s.size : Int) ≤ 20) = false := by simpa using (by omega : ¬ ((s.size : Int) ≤ 20))
      have hf : nameF s = false := by unfold nameF; rw [decide_eq_false h20]; simp
      have HF := Lib.hid hf
      clear hf
      go_enter Tryz.func33, Tryz.ntmps33
      go_wp2_with fail
      go_ret
      exact ⟨ret_bool HF.out.symm, rfl⟩
  · have hd : decide ((1 : Int) ≤ (s.size : Int)) = false := by simpa using (by omega : ¬ ((1 : Int) ≤ (s.size : Int)))
    have hf : nameF s = false := by unfold nameF; rw [decide_eq_false h1]; simp
    have HF := Lib.hid hf
    clear hf
    go_enter Tryz.func33, Tryz.ntmps33
    go_wp2_with fail
    go_ret
    exact ⟨ret_bool HF.out.symm, rfl⟩
theorem good_impl (s : ByteArray) (w : World) (hs : s.size ≤ 9223372036854775807) : Calls Tryz.prog 20 #[.string s] w fun e w' => e = .returned (.bool (goodF s)) ∧ w = w' := by
  by_cases hn : nameF s = true
  · have HF := Lib.hid (show goodF s = !resF s.toList by unfold goodF; rw [hn]; rfl)
    go_enter Tryz.func20, Tryz.ntmps20
    go_wp2_with (first | (go_at_call 39; refine (name_impl _ _ (by omega)).mono ?_; rintro e w' ⟨rfl, rfl⟩) | (go_at_call 40; refine (res_impl _ _).mono ?_; rintro e w' ⟨rfl, rfl⟩))
    go_ret
    exact ⟨ret_bool HF.out.symm, rfl⟩
  · have hn' : nameF s = false := by simpa using hn
    have HF := Lib.hid (show goodF s = false by unfold goodF; rw [hn']; rfl)
    clear hn
    go_enter Tryz.func20, Tryz.ntmps20
    go_wp2_with (first | (go_at_call 39; refine (name_impl _ _ (by omega)).mono ?_; rintro e w' ⟨rfl, rfl⟩) | (go_at_call 40; refine (res_impl _ _).mono ?_; rintro e w' ⟨rfl, rfl⟩))
    go_ret
    exact ⟨ret_bool HF.out.symm, rfl⟩
theorem good_spec (s : ByteArray) (w : World) (hs : s.size ≤ 9223372036854775807) : Calls Tryz.prog 15 #[.string s] w fun e w' => e = .returned (.bool (goodF s)) ∧ Below w.heap.size w w' := by
  by_cases hn : nameF s = true
  · have HF := Lib.hid (show goodF s = !resF s.toList by unfold goodF; rw [hn]; rfl)
    go_enter Tryz.func15, Tryz.ntmps15
    go_wp2_with (first | (go_at_call 33; refine (name_spec _ _ (by omega)).mono ?_; rintro e w' ⟨rfl, rfl⟩) | (go_at_call 34; refine (res_spec _ _).mono ?_; rintro e w1 ⟨rfl, hb1⟩))
    go_ret
    exact ⟨ret_bool HF.out.symm, hb1⟩
  · have hn' : nameF s = false := by simpa using hn
    have HF := Lib.hid (show goodF s = false by unfold goodF; rw [hn']; rfl)
    clear hn
    go_enter Tryz.func15, Tryz.ntmps15
    go_wp2_with (first | (go_at_call 33; refine (name_spec _ _ (by omega)).mono ?_; rintro e w' ⟨rfl, rfl⟩) | (go_at_call 34; refine (res_spec _ _).mono ?_; rintro e w1 ⟨rfl, hb1⟩))
    go_ret
    exact ⟨ret_bool HF.out.symm, Below.refl _ _⟩
end Go.Proofs.YtdmbhmhfjappcaaGreatDoor
