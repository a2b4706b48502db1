/-
  What pathPart and the reference's l22Part return. Conditions: none.
-/
import Derived.Test.YtnkidlahmplgnaaDoorPthA
namespace Go.Proofs.YtnkidlahmplgnaaDoor
open Go.ChangeShapes Go.WideShapes Go.ChangeAt Go.RowKit Go.Deep Go.Joins
open Go.ChangeMaps (open_string shut_string)
set_option linter.unusedVariables false
set_option linter.unusedSimpArgs false
set_option maxRecDepth 100000
set_option maxHeartbeats 2000000 in
theorem part_impl (s : ByteArray) (w : World) (hs : s.size ≤ 9223372036854775807) : Calls Tryd.prog 20 #[.string s] w fun e w' => e = .returned (.bool (partF s)) ∧ w = w' := by
  go_enter Tryd.func20, Tryd.ntmps20
  go_wp2
  go_loop [3] (fun i => ∃ k : Nat, k ≤ s.size ∧ i = .int .i64 k ∧ ∀ j, j < k → ptP s j = true) (fun i => s.size - (intOf i).toNat)
  case atStart => exact ⟨0, Nat.zero_le _, rfl, fun j hj => absurd hj (by omega)⟩
  case round =>
    obtain ⟨k, hk, rfl, hall⟩ := hrel
    have HALL := Lib.hid hall
    clear hall
    by_cases hlt : k < s.size
    · have hp : ptP s k = (ltrI (s[k].toNat : Int) || (digI (s[k].toNat : Int) || ((s[k].toNat : Int) == 95 || ((s[k].toNat : Int) == 45 || (s[k].toNat : Int) == 46)))) := by unfold ptP; rw [bI_eq s k hlt]
      have HP := Lib.hid hp
      clear hp
      have GO := Lib.hid (fun (h : ptP s k = true) => (fun j hj => (by
        by_cases e : j = k
        · subst e; exact h
        · exact HALL.out j (by omega)) : ∀ j, j < k + 1 → ptP s j = true))
      have hx0 : (0 : Int) ≤ (s[k].toNat : Int) := by omega
      have hx1 : (s[k].toNat : Int) ≤ 255 := by have := s[k].toNat_lt; omega
      have hd : decide ((k : Int) < (s.size : Int)) = true := by simpa using hlt
      have hd2 : decide (k < s.size) = true := by simpa using hlt
      cases hl : ltrI (s[k].toNat : Int) with
      | true =>
        have HT := Lib.hid (show ptP s k = true from by rw [HP.out, hl]; simp)
        go_wp2_with (first | (go_at_call 30; refine (isLetter_any _ _ (by omega) (by omega)).mono ?_; rintro e w' ⟨rfl, rfl⟩) | (go_at_call 31; refine (isDigit_any _ _ (by omega) (by omega)).mono ?_; rintro e w' ⟨rfl, rfl⟩))
        go_round
        case rel => exact ⟨k + 1, by omega, by go_num, GO.out HT.out⟩
        case measure => simp [intOf]; omega
      | false =>
      cases hg : digI (s[k].toNat : Int) with
      | true =>
        have HT := Lib.hid (show ptP s k = true from by rw [HP.out, hg]; simp)
        go_wp2_with (first | (go_at_call 30; refine (isLetter_any _ _ (by omega) (by omega)).mono ?_; rintro e w' ⟨rfl, rfl⟩) | (go_at_call 31; refine (isDigit_any _ _ (by omega) (by omega)).mono ?_; rintro e w' ⟨rfl, rfl⟩))
        go_round
        case rel => exact ⟨k + 1, by omega, by go_num, GO.out HT.out⟩
        case measure => simp [intOf]; omega
      | false =>
      cases h95 : ((s[k].toNat : Int) == 95) with
      | true =>
        have nh95 : ((s[k].toNat : Int) != 95) = false := by rw [bne, h95]; rfl
        have HT := Lib.hid (show ptP s k = true from by rw [HP.out, h95]; simp)
        go_wp2_with (first | (go_at_call 30; refine (isLetter_any _ _ (by omega) (by omega)).mono ?_; rintro e w' ⟨rfl, rfl⟩) | (go_at_call 31; refine (isDigit_any _ _ (by omega) (by omega)).mono ?_; rintro e w' ⟨rfl, rfl⟩))
        go_round
        case rel => exact ⟨k + 1, by omega, by go_num, GO.out HT.out⟩
        case measure => simp [intOf]; omega
      | false =>
      have nh95 : ((s[k].toNat : Int) != 95) = true := by rw [bne, h95]; rfl
      cases h45 : ((s[k].toNat : Int) == 45) with
      | true =>
        have nh45 : ((s[k].toNat : Int) != 45) = false := by rw [bne, h45]; rfl
        have HT := Lib.hid (show ptP s k = true from by rw [HP.out, h45]; simp)
        go_wp2_with (first | (go_at_call 30; refine (isLetter_any _ _ (by omega) (by omega)).mono ?_; rintro e w' ⟨rfl, rfl⟩) | (go_at_call 31; refine (isDigit_any _ _ (by omega) (by omega)).mono ?_; rintro e w' ⟨rfl, rfl⟩))
        go_round
        case rel => exact ⟨k + 1, by omega, by go_num, GO.out HT.out⟩
        case measure => simp [intOf]; omega
      | false =>
      have nh45 : ((s[k].toNat : Int) != 45) = true := by rw [bne, h45]; rfl
      cases h46 : ((s[k].toNat : Int) == 46) with
      | true =>
        have nh46 : ((s[k].toNat : Int) != 46) = false := by rw [bne, h46]; rfl
        have HT := Lib.hid (show ptP s k = true from by rw [HP.out, h46]; simp)
        go_wp2_with (first | (go_at_call 30; refine (isLetter_any _ _ (by omega) (by omega)).mono ?_; rintro e w' ⟨rfl, rfl⟩) | (go_at_call 31; refine (isDigit_any _ _ (by omega) (by omega)).mono ?_; rintro e w' ⟨rfl, rfl⟩))
        go_round
        case rel => exact ⟨k + 1, by omega, by go_num, GO.out HT.out⟩
        case measure => simp [intOf]; omega
      | false =>
      have nh46 : ((s[k].toNat : Int) != 46) = true := by rw [bne, h46]; rfl
      have HT := Lib.hid (show partF s = false from by unfold partF; rw [allB_false hlt (by rw [HP.out, hl, hg, h95, h45, h46]; rfl)]; simp)
      go_wp2_with (first | (go_at_call 30; refine (isLetter_any _ _ (by omega) (by omega)).mono ?_; rintro e w' ⟨rfl, rfl⟩) | (go_at_call 31; refine (isDigit_any _ _ (by omega) (by omega)).mono ?_; rintro e w' ⟨rfl, rfl⟩))
      go_ret
      exact ⟨ret_bool (by first | exact HT.out.symm | (rw [HT.out]; simp)), rfl⟩
    · obtain rfl : k = s.size := by omega
      have hd : decide ((s.size : Int) < (s.size : Int)) = false := by simp
      have HT := Lib.hid (allB_true HALL.out)
      clear hlt
      go_wp2_with (first | (go_at_call 30; refine (isLetter_any _ _ (by omega) (by omega)).mono ?_; rintro e w' ⟨rfl, rfl⟩) | (go_at_call 31; refine (isDigit_any _ _ (by omega) (by omega)).mono ?_; rintro e w' ⟨rfl, rfl⟩))
      go_ret
      exact ⟨ret_bool (by unfold partF; rw [HT.out, Bool.and_true]; first | exact decide_eq_decide.2 (by omega) | (unfold inB; rw [← Bool.decide_and]; exact decide_eq_decide.2 (by omega))), rfl⟩
set_option maxHeartbeats 2000000 in
theorem part_spec (s : ByteArray) (w : World) (hs : s.size ≤ 9223372036854775807) : Calls Tryd.prog 51 #[.string s] w fun e w' => e = .returned (.bool (decide (1 ≤ s.size) && partF s)) ∧ w = w' := by
  go_enter Tryd.func51, Tryd.ntmps51
  go_wp2
  go_loop [3] (fun i => ∃ k : Nat, k ≤ s.size ∧ i = .int .i64 k ∧ ∀ j, j < k → ptP s j = true) (fun i => s.size - (intOf i).toNat)
  case atStart => exact ⟨0, Nat.zero_le _, rfl, fun j hj => absurd hj (by omega)⟩
  case round =>
    obtain ⟨k, hk, rfl, hall⟩ := hrel
    have HALL := Lib.hid hall
    clear hall
    by_cases hlt : k < s.size
    · have hp : ptP s k = (ltrI (s[k].toNat : Int) || (digI (s[k].toNat : Int) || ((s[k].toNat : Int) == 95 || ((s[k].toNat : Int) == 45 || (s[k].toNat : Int) == 46)))) := by unfold ptP; rw [bI_eq s k hlt]
      have HP := Lib.hid hp
      clear hp
      have GO := Lib.hid (fun (h : ptP s k = true) => (fun j hj => (by
        by_cases e : j = k
        · subst e; exact h
        · exact HALL.out j (by omega)) : ∀ j, j < k + 1 → ptP s j = true))
      have hx0 : (0 : Int) ≤ (s[k].toNat : Int) := by omega
      have hx1 : (s[k].toNat : Int) ≤ 255 := by have := s[k].toNat_lt; omega
      have hd : decide ((k : Int) < (s.size : Int)) = true := by simpa using hlt
      have hd2 : decide (k < s.size) = true := by simpa using hlt
      cases hl : ltrI (s[k].toNat : Int) with
      | true =>
        have HT := Lib.hid (show ptP s k = true from by rw [HP.out, hl]; simp)
        go_wp2_with (first | (go_at_call 57; refine (l14Letter_any _ _ (by omega) (by omega)).mono ?_; rintro e w' ⟨rfl, rfl⟩) | (go_at_call 58; refine (l14Digit_any _ _ (by omega) (by omega)).mono ?_; rintro e w' ⟨rfl, rfl⟩) | (go_at_call 43; refine (l1In_any _ _ _ _).mono ?_; rintro e w' ⟨rfl, rfl⟩))
        go_round
        case rel => exact ⟨k + 1, by omega, by go_num, GO.out HT.out⟩
        case measure => simp [intOf]; omega
      | false =>
      cases h95 : ((s[k].toNat : Int) == 95) with
      | true =>
        have nh95 : ((s[k].toNat : Int) != 95) = false := by rw [bne, h95]; rfl
        have HT := Lib.hid (show ptP s k = true from by rw [HP.out, h95]; simp)
        go_wp2_with (first | (go_at_call 57; refine (l14Letter_any _ _ (by omega) (by omega)).mono ?_; rintro e w' ⟨rfl, rfl⟩) | (go_at_call 58; refine (l14Digit_any _ _ (by omega) (by omega)).mono ?_; rintro e w' ⟨rfl, rfl⟩) | (go_at_call 43; refine (l1In_any _ _ _ _).mono ?_; rintro e w' ⟨rfl, rfl⟩))
        go_round
        case rel => exact ⟨k + 1, by omega, by go_num, GO.out HT.out⟩
        case measure => simp [intOf]; omega
      | false =>
      have nh95 : ((s[k].toNat : Int) != 95) = true := by rw [bne, h95]; rfl
      cases hg : digI (s[k].toNat : Int) with
      | true =>
        have HT := Lib.hid (show ptP s k = true from by rw [HP.out, hg]; simp)
        go_wp2_with (first | (go_at_call 57; refine (l14Letter_any _ _ (by omega) (by omega)).mono ?_; rintro e w' ⟨rfl, rfl⟩) | (go_at_call 58; refine (l14Digit_any _ _ (by omega) (by omega)).mono ?_; rintro e w' ⟨rfl, rfl⟩) | (go_at_call 43; refine (l1In_any _ _ _ _).mono ?_; rintro e w' ⟨rfl, rfl⟩))
        go_round
        case rel => exact ⟨k + 1, by omega, by go_num, GO.out HT.out⟩
        case measure => simp [intOf]; omega
      | false =>
      cases h45 : ((s[k].toNat : Int) == 45) with
      | true =>
        have nh45 : ((s[k].toNat : Int) != 45) = false := by rw [bne, h45]; rfl
        have HT := Lib.hid (show ptP s k = true from by rw [HP.out, h45]; simp)
        go_wp2_with (first | (go_at_call 57; refine (l14Letter_any _ _ (by omega) (by omega)).mono ?_; rintro e w' ⟨rfl, rfl⟩) | (go_at_call 58; refine (l14Digit_any _ _ (by omega) (by omega)).mono ?_; rintro e w' ⟨rfl, rfl⟩) | (go_at_call 43; refine (l1In_any _ _ _ _).mono ?_; rintro e w' ⟨rfl, rfl⟩))
        go_round
        case rel => exact ⟨k + 1, by omega, by go_num, GO.out HT.out⟩
        case measure => simp [intOf]; omega
      | false =>
      have nh45 : ((s[k].toNat : Int) != 45) = true := by rw [bne, h45]; rfl
      cases h46 : ((s[k].toNat : Int) == 46) with
      | true =>
        have nh46 : ((s[k].toNat : Int) != 46) = false := by rw [bne, h46]; rfl
        have HT := Lib.hid (show ptP s k = true from by rw [HP.out, h46]; simp)
        go_wp2_with (first | (go_at_call 57; refine (l14Letter_any _ _ (by omega) (by omega)).mono ?_; rintro e w' ⟨rfl, rfl⟩) | (go_at_call 58; refine (l14Digit_any _ _ (by omega) (by omega)).mono ?_; rintro e w' ⟨rfl, rfl⟩) | (go_at_call 43; refine (l1In_any _ _ _ _).mono ?_; rintro e w' ⟨rfl, rfl⟩))
        go_round
        case rel => exact ⟨k + 1, by omega, by go_num, GO.out HT.out⟩
        case measure => simp [intOf]; omega
      | false =>
      have nh46 : ((s[k].toNat : Int) != 46) = true := by rw [bne, h46]; rfl
      have HT := Lib.hid (show partF s = false from by unfold partF; rw [allB_false hlt (by rw [HP.out, hl, hg, h95, h45, h46]; rfl)]; simp)
      go_wp2_with (first | (go_at_call 57; refine (l14Letter_any _ _ (by omega) (by omega)).mono ?_; rintro e w' ⟨rfl, rfl⟩) | (go_at_call 58; refine (l14Digit_any _ _ (by omega) (by omega)).mono ?_; rintro e w' ⟨rfl, rfl⟩) | (go_at_call 43; refine (l1In_any _ _ _ _).mono ?_; rintro e w' ⟨rfl, rfl⟩))
      go_ret
      exact ⟨ret_bool (by first | exact HT.out.symm | (rw [HT.out]; simp)), rfl⟩
    · obtain rfl : k = s.size := by omega
      have hd : decide ((s.size : Int) < (s.size : Int)) = false := by simp
      have HT := Lib.hid (allB_true HALL.out)
      clear hlt
      go_wp2_with (first | (go_at_call 57; refine (l14Letter_any _ _ (by omega) (by omega)).mono ?_; rintro e w' ⟨rfl, rfl⟩) | (go_at_call 58; refine (l14Digit_any _ _ (by omega) (by omega)).mono ?_; rintro e w' ⟨rfl, rfl⟩) | (go_at_call 43; refine (l1In_any _ _ _ _).mono ?_; rintro e w' ⟨rfl, rfl⟩))
      go_ret
      exact ⟨ret_bool (by unfold partF; rw [HT.out, Bool.and_true]; first | exact decide_eq_decide.2 (by omega) | (unfold inB; rw [← Bool.decide_and]; exact decide_eq_decide.2 (by omega))), rfl⟩
end Go.Proofs.YtnkidlahmplgnaaDoor
