/-
  What the functions on a header's name and on its value return. Conditions: none.
-/
import Derived.Test.YtnbedjfmhnpjaaaStr
namespace Go.Proofs.Ytnbedjfmhnpjaaa
open Go.ChangeShapes Go.WideShapes Go.ChangeAt Go.RowKit Go.Deep Go.Joins
open Go.ChangeMaps (open_string shut_string)
set_option linter.unusedVariables false
set_option linter.unusedSimpArgs false
def hnI (x : Int) : Bool := ltrI x || digI x || x == 45
def hvI (x : Int) : Bool := inB x 32 126
def hnF (s : ByteArray) : Bool := allB (fun k => hnI (bI s k)) s.size && inB (s.size : Int) 1 20
def hvF (s : ByteArray) : Bool := allB (fun k => hvI (bI s k)) s.size && decide ((s.size : Int) ≤ 60)
theorem hnI_l {x : Int} (h : ltrI x = true) : hnI x = true := by unfold hnI; rw [h]; rfl
theorem hnI_d {x : Int} (h : digI x = true) : hnI x = true := by unfold hnI; rw [h]; simp
theorem hnI_m {x : Int} (h : (x == 45) = true) : hnI x = true := by unfold hnI; rw [h]; simp
theorem hnI_n {x : Int} (h1 : ltrI x = false) (h2 : digI x = false) (h3 : (x == 45) = false) : hnI x = false := by unfold hnI; rw [h1, h2, h3]; rfl
theorem hnI_u {x : Int} (h : (x == 95) = true) : hnI x = false := by
  have : x = 95 := by simpa using h
  subst this
  rfl
theorem n95_l {x : Int} (h : ltrI x = true) : (x == 95) = false := by rw [beq_eq_false_iff_ne]; rintro rfl; cases h
theorem n95_d {x : Int} (h : digI x = true) : (x == 95) = false := by rw [beq_eq_false_iff_ne]; rintro rfl; cases h
theorem n95_m {x : Int} (h : (x == 45) = true) : (x == 95) = false := by rw [beq_eq_false_iff_ne]; rintro rfl; cases h
theorem hn_out {s : ByteArray} {k : Nat} (hk : k < s.size) (h : hnI (s[k].toNat : Int) = false) : false = hnF s := by
  unfold hnF
  rw [allB_false (k := k) hk (by rw [bI_eq s k hk]; exact h)]
  rfl
theorem hn_end {s : ByteArray} {k : Nat} (hk : k = s.size) (h : ∀ j, j < k → hnI (bI s j) = true) : inB (s.size : Int) 1 20 = hnF s := by
  subst hk
  unfold hnF
  rw [allB_true h]
  rfl
theorem hv_out {s : ByteArray} {k : Nat} (hk : k < s.size) (h : hvI (s[k].toNat : Int) = false) : false = hvF s := by
  unfold hvF
  rw [allB_false (k := k) hk (by rw [bI_eq s k hk]; exact h)]
  rfl
theorem hv_end {s : ByteArray} {k : Nat} (hk : k = s.size) (h : ∀ j, j < k → hvI (bI s j) = true) : decide ((s.size : Int) ≤ 60) = hvF s := by
  subst hk
  unfold hvF
  rw [allB_true h]
  rfl
theorem go_on_ {s : ByteArray} {k : Nat} {p : Int → Bool} (hk : k < s.size) (h : ∀ j, j < k → p (bI s j) = true) (hx : p (s[k].toNat : Int) = true) : ∀ j, j < k + 1 → p (bI s j) = true := fun j hj => by
  by_cases e : j = k
  · subst e; rw [bI_eq s j hk]; exact hx
  · exact h j (by omega)
set_option maxHeartbeats 1000000 in
theorem hname_impl (s : ByteArray) (w : World) (hs : s.size ≤ 9223372036854775807) : Calls Try.prog 30 #[.string s] w fun e w' => e = .returned (.bool (hnF s)) ∧ w = w' := by
  go_enter Try.func30, Try.ntmps30
  go_wp2
  go_loop [3] (fun i => ∃ k : Nat, k ≤ s.size ∧ i = .int .i64 k ∧ ∀ j, j < k → hnI (bI s j) = true) (fun i => s.size - (intOf i).toNat)
  case atStart => exact ⟨0, Nat.zero_le _, rfl, fun j hj => absurd hj (by omega)⟩
  case round =>
    obtain ⟨k, hk, rfl, hall⟩ := hrel
    have HALL := Lib.hid hall
    clear hall
    by_cases hlt : k < s.size
    · have hx1 := (u8_lt s[k]).1
      have hx0 := (u8_lt s[k]).2
      by_cases hl : ltrI (s[k].toNat : Int) = true
      · skip
        have FF := Lib.hid (hnI_l hl)
        go_wp2_with (first | (go_at_call 49; refine (isLetter_any _ _ (by omega) (by omega)).mono ?_; rintro e w' ⟨rfl, rfl⟩) | (go_at_call 50; refine (isDigit_any _ _ (by omega) (by omega)).mono ?_; rintro e w' ⟨rfl, rfl⟩))
        go_round
        case rel => exact ⟨k + 1, by omega, by go_num, go_on_ hlt HALL.out FF.out⟩
        case measure => simp [intOf]; omega
      · have hl' : (ltrI (s[k].toNat : Int)) = false := by simpa using hl
        clear hl
        by_cases hd : digI (s[k].toNat : Int) = true
        · skip
          have FF := Lib.hid (hnI_d hd)
          go_wp2_with (first | (go_at_call 49; refine (isLetter_any _ _ (by omega) (by omega)).mono ?_; rintro e w' ⟨rfl, rfl⟩) | (go_at_call 50; refine (isDigit_any _ _ (by omega) (by omega)).mono ?_; rintro e w' ⟨rfl, rfl⟩))
          go_round
          case rel => exact ⟨k + 1, by omega, by go_num, go_on_ hlt HALL.out FF.out⟩
          case measure => simp [intOf]; omega
        · have hd' : (digI (s[k].toNat : Int)) = false := by simpa using hd
          clear hd
          by_cases hm : ((s[k].toNat : Int) == 45) = true
          · have z1 : ((s[k].toNat : Int) != 45) = false := by rw [bne, hm]; rfl
            have FF := Lib.hid (hnI_m hm)
            go_wp2_with (first | (go_at_call 49; refine (isLetter_any _ _ (by omega) (by omega)).mono ?_; rintro e w' ⟨rfl, rfl⟩) | (go_at_call 50; refine (isDigit_any _ _ (by omega) (by omega)).mono ?_; rintro e w' ⟨rfl, rfl⟩))
            go_round
            case rel => exact ⟨k + 1, by omega, by go_num, go_on_ hlt HALL.out FF.out⟩
            case measure => simp [intOf]; omega
          · have hm' : (((s[k].toNat : Int) == 45)) = false := by simpa using hm
            clear hm
            have z1 : ((s[k].toNat : Int) != 45) = true := by rw [bne, hm']; rfl
            have FF := Lib.hid (hnI_n hl' hd' hm')
            go_wp2_with (first | (go_at_call 49; refine (isLetter_any _ _ (by omega) (by omega)).mono ?_; rintro e w' ⟨rfl, rfl⟩) | (go_at_call 50; refine (isDigit_any _ _ (by omega) (by omega)).mono ?_; rintro e w' ⟨rfl, rfl⟩))
            go_ret
            exact ⟨ret_bool (hn_out hlt FF.out), rfl⟩
    · have hkk : k = s.size := by omega
      have FF := Lib.hid (hn_end hkk HALL.out)
      have hlt' : ¬ (k : Int) < (s.size : Int) := by omega
      clear hkk
      go_wp2_with (go_at_call 38; refine (inRange_any _ _ _ _).mono ?_; rintro e w' ⟨rfl, rfl⟩)
      go_ret
      exact ⟨ret_bool FF.out, rfl⟩
set_option maxHeartbeats 1000000 in
theorem hname_spec (s : ByteArray) (w : World) (hs : s.size ≤ 9223372036854775807) : Calls Try.prog 34 #[.string s] w fun e w' => e = .returned (.bool (hnF s)) ∧ w = w' := by
  go_enter Try.func34, Try.ntmps34
  go_wp2
  go_loop [3] (fun i => ∃ k : Nat, k ≤ s.size ∧ i = .int .i64 k ∧ ∀ j, j < k → hnI (bI s j) = true) (fun i => s.size - (intOf i).toNat)
  case atStart => exact ⟨0, Nat.zero_le _, rfl, fun j hj => absurd hj (by omega)⟩
  case round =>
    obtain ⟨k, hk, rfl, hall⟩ := hrel
    have HALL := Lib.hid hall
    clear hall
    by_cases hlt : k < s.size
    · have hx1 := (u8_lt s[k]).1
      have hx0 := (u8_lt s[k]).2
      by_cases hu : ((s[k].toNat : Int) == 95) = true
      · skip
        have FF := Lib.hid (hnI_u hu)
        go_wp2_with (first | (go_at_call 51; refine (l14Letter_any _ _ (by omega) (by omega)).mono ?_; rintro e w' ⟨rfl, rfl⟩) | (go_at_call 52; refine (l14Digit_any _ _ (by omega) (by omega)).mono ?_; rintro e w' ⟨rfl, rfl⟩))
        go_ret
        exact ⟨ret_bool (hn_out hlt FF.out), rfl⟩
      · have hu' : (((s[k].toNat : Int) == 95)) = false := by simpa using hu
        clear hu
        by_cases hl : ltrI (s[k].toNat : Int) = true
        · skip
          have FF := Lib.hid (hnI_l hl)
          go_wp2_with (first | (go_at_call 51; refine (l14Letter_any _ _ (by omega) (by omega)).mono ?_; rintro e w' ⟨rfl, rfl⟩) | (go_at_call 52; refine (l14Digit_any _ _ (by omega) (by omega)).mono ?_; rintro e w' ⟨rfl, rfl⟩))
          go_round
          case rel => exact ⟨k + 1, by omega, by go_num, go_on_ hlt HALL.out FF.out⟩
          case measure => simp [intOf]; omega
        · have hl' : (ltrI (s[k].toNat : Int)) = false := by simpa using hl
          clear hl
          by_cases hd : digI (s[k].toNat : Int) = true
          · skip
            have FF := Lib.hid (hnI_d hd)
            go_wp2_with (first | (go_at_call 51; refine (l14Letter_any _ _ (by omega) (by omega)).mono ?_; rintro e w' ⟨rfl, rfl⟩) | (go_at_call 52; refine (l14Digit_any _ _ (by omega) (by omega)).mono ?_; rintro e w' ⟨rfl, rfl⟩))
            go_round
            case rel => exact ⟨k + 1, by omega, by go_num, go_on_ hlt HALL.out FF.out⟩
            case measure => simp [intOf]; omega
          · have hd' : (digI (s[k].toNat : Int)) = false := by simpa using hd
            clear hd
            by_cases hm : ((s[k].toNat : Int) == 45) = true
            · have z1 : ((s[k].toNat : Int) != 45) = false := by rw [bne, hm]; rfl
              have FF := Lib.hid (hnI_m hm)
              go_wp2_with (first | (go_at_call 51; refine (l14Letter_any _ _ (by omega) (by omega)).mono ?_; rintro e w' ⟨rfl, rfl⟩) | (go_at_call 52; refine (l14Digit_any _ _ (by omega) (by omega)).mono ?_; rintro e w' ⟨rfl, rfl⟩))
              go_round
              case rel => exact ⟨k + 1, by omega, by go_num, go_on_ hlt HALL.out FF.out⟩
              case measure => simp [intOf]; omega
            · have hm' : (((s[k].toNat : Int) == 45)) = false := by simpa using hm
              clear hm
              have z1 : ((s[k].toNat : Int) != 45) = true := by rw [bne, hm']; rfl
              have FF := Lib.hid (hnI_n hl' hd' hm')
              go_wp2_with (first | (go_at_call 51; refine (l14Letter_any _ _ (by omega) (by omega)).mono ?_; rintro e w' ⟨rfl, rfl⟩) | (go_at_call 52; refine (l14Digit_any _ _ (by omega) (by omega)).mono ?_; rintro e w' ⟨rfl, rfl⟩))
              go_ret
              exact ⟨ret_bool (hn_out hlt FF.out), rfl⟩
    · have hkk : k = s.size := by omega
      have FF := Lib.hid (hn_end hkk HALL.out)
      have hlt' : ¬ (k : Int) < (s.size : Int) := by omega
      clear hkk
      go_wp2_with (go_at_call 36; refine (l1In_any _ _ _ _).mono ?_; rintro e w' ⟨rfl, rfl⟩)
      go_ret
      exact ⟨ret_bool FF.out, rfl⟩
set_option maxHeartbeats 1000000 in
theorem hval_impl (s : ByteArray) (w : World) (hs : s.size ≤ 9223372036854775807) : Calls Try.prog 31 #[.string s] w fun e w' => e = .returned (.bool (hvF s)) ∧ w = w' := by
  go_enter Try.func31, Try.ntmps31
  go_wp2
  go_loop [3] (fun i => ∃ k : Nat, k ≤ s.size ∧ i = .int .i64 k ∧ ∀ j, j < k → hvI (bI s j) = true) (fun i => s.size - (intOf i).toNat)
  case atStart => exact ⟨0, Nat.zero_le _, rfl, fun j hj => absurd hj (by omega)⟩
  case round =>
    obtain ⟨k, hk, rfl, hall⟩ := hrel
    have HALL := Lib.hid hall
    clear hall
    by_cases hlt : k < s.size
    · have hx1 := (u8_lt s[k]).1
      have hx0 := (u8_lt s[k]).2
      by_cases ha : 32 ≤ (s[k].toNat : Int)
      · have ea : decide ((s[k].toNat : Int) < 32) = false := by simpa using ha
        by_cases hb : (s[k].toNat : Int) ≤ 126
        · have eb : decide (126 < (s[k].toNat : Int)) = false := by simpa using hb
          have FF := Lib.hid (inB_t ⟨ha, hb⟩ : hvI (s[k].toNat : Int) = true)
          clear ha hb
          go_wp2_with fail
          go_round
          case rel => exact ⟨k + 1, by omega, by go_num, go_on_ hlt HALL.out FF.out⟩
          case measure => simp [intOf]; omega
        · have eb : decide (126 < (s[k].toNat : Int)) = true := by simpa using hb
          have FF := Lib.hid (inB_f (by omega) : hvI (s[k].toNat : Int) = false)
          clear ha hb
          go_wp2_with fail
          go_ret
          exact ⟨ret_bool (hv_out hlt FF.out), rfl⟩
      · have ea : decide ((s[k].toNat : Int) < 32) = true := by simpa using ha
        have FF := Lib.hid (inB_f (by omega) : hvI (s[k].toNat : Int) = false)
        clear ha
        go_wp2_with fail
        go_ret
        exact ⟨ret_bool (hv_out hlt FF.out), rfl⟩
    · have hkk : k = s.size := by omega
      have FF := Lib.hid (hv_end hkk HALL.out)
      have hlt' : ¬ (k : Int) < (s.size : Int) := by omega
      clear hkk
      go_wp2_with fail
      go_ret
      exact ⟨ret_bool FF.out, rfl⟩
set_option maxHeartbeats 1000000 in
theorem hval_spec (s : ByteArray) (w : World) (hs : s.size ≤ 9223372036854775807) : Calls Try.prog 35 #[.string s] w fun e w' => e = .returned (.bool (hvF s)) ∧ w = w' := by
  go_enter Try.func35, Try.ntmps35
  go_wp2
  go_loop [3] (fun i => ∃ k : Nat, k ≤ s.size ∧ i = .int .i64 k ∧ ∀ j, j < k → hvI (bI s j) = true) (fun i => s.size - (intOf i).toNat)
  case atStart => exact ⟨0, Nat.zero_le _, rfl, fun j hj => absurd hj (by omega)⟩
  case round =>
    obtain ⟨k, hk, rfl, hall⟩ := hrel
    have HALL := Lib.hid hall
    clear hall
    by_cases hlt : k < s.size
    · have hx1 := (u8_lt s[k]).1
      have hx0 := (u8_lt s[k]).2
      by_cases hl : inB (s[k].toNat : Int) 32 126 = true
      · skip
        have FF := Lib.hid (hl)
        go_wp2_with (go_at_call 36; refine (l1In_any _ _ _ _).mono ?_; rintro e w' ⟨rfl, rfl⟩)
        go_round
        case rel => exact ⟨k + 1, by omega, by go_num, go_on_ hlt HALL.out FF.out⟩
        case measure => simp [intOf]; omega
      · have hl' : (inB (s[k].toNat : Int) 32 126) = false := by simpa using hl
        clear hl
        skip
        have FF := Lib.hid (hl')
        go_wp2_with (go_at_call 36; refine (l1In_any _ _ _ _).mono ?_; rintro e w' ⟨rfl, rfl⟩)
        go_ret
        exact ⟨ret_bool (hv_out hlt FF.out), rfl⟩
    · have hkk : k = s.size := by omega
      have FF := Lib.hid (hv_end hkk HALL.out)
      have hlt' : ¬ (k : Int) < (s.size : Int) := by omega
      clear hkk
      go_wp2_with fail
      go_ret
      exact ⟨ret_bool FF.out, rfl⟩
end Go.Proofs.Ytnbedjfmhnpjaaa
