/-
  What the functions on names return: nameLength, IsName, goodName and the reference's l14Name, IsName, l15Name. Conditions: none.
-/
import Derived.Test.YtgbeenieacnanaaDoorStr
namespace Go.Proofs.YtgbeenieacnanaaDoor
open Go.ChangeShapes Go.WideShapes Go.ChangeAt Go.RowKit Go.Deep Go.Joins
open Go.ChangeMaps (open_string shut_string)
set_option linter.unusedVariables false

def nmP (s : ByteArray) (k : Nat) : Bool := ltrI (bI s k) || bI s k == 95 || (decide (0 < k) && digI (bI s k))
def nmLen (s : ByteArray) : Nat := scan (nmP s) s.size 0
def nameF (s : ByteArray) : Bool := decide (1 ≤ s.size) && decide (s.size ≤ 20) && allB (nmP s) s.size
def goodF (s : ByteArray) : Bool := nameF s && !resF s.toList
theorem nmLen_eq (s : ByteArray) (k : Nat) (hk : k ≤ s.size) (h : ∀ j, j < k → nmP s j = true) (he : k = s.size ∨ nmP s k = false) : nmLen s = k :=
  scan_eq _ _ _ _ (Nat.zero_le _) (by omega) (fun j _ => h j) (by rcases he with h | h; exact .inl (by omega); exact .inr h)
theorem scan_le (p : Nat → Bool) : ∀ (f i : Nat), scan p f i ≤ i + f ∧ i ≤ scan p f i ∧ (∀ j, i ≤ j → j < scan p f i → p j = true) ∧ (scan p f i = i + f ∨ p (scan p f i) = false)
  | 0, i => ⟨by simp [scan], by simp [scan], fun j a b => by simp [scan] at b; omega, .inl rfl⟩
  | f + 1, i => by
    unfold scan
    by_cases hp : p i = true
    · rw [if_pos hp]
      obtain ⟨a, b, c, d⟩ := scan_le p f (i + 1)
      refine ⟨by omega, by omega, fun j h1 h2 => ?_, by rcases d with d | d; exact .inl (by omega); exact .inr d⟩
      by_cases e : j = i
      · subst e; exact hp
      · exact c j (by omega) h2
    · rw [if_neg hp]
      exact ⟨by omega, Nat.le_refl _, fun j a b => by omega, .inr (by simpa using hp)⟩
theorem nmLen_all (s : ByteArray) (h : allB (nmP s) s.size = true) : nmLen s = s.size := nmLen_eq s _ (Nat.le_refl _) (allB_get h) (.inl rfl)
theorem nmLen_lt (s : ByteArray) (h : allB (nmP s) s.size = false) : nmLen s < s.size := by
  obtain ⟨a, b, c, d⟩ := scan_le (nmP s) s.size 0
  rcases Nat.lt_or_ge (nmLen s) s.size with hlt | hge
  · exact hlt
  · have : allB (nmP s) s.size = true := allB_true fun j hj => c j (by omega) (by unfold nmLen at hge; omega)
    rw [h] at this; cases this
theorem nmP_let {s : ByteArray} {k : Nat} (hk : k < s.size) (h : ltrI (s[k].toNat : Int) = true) : nmP s k = true := by unfold nmP; rw [bI_eq s k hk, h]; rfl
theorem nmP_95 {s : ByteArray} {k : Nat} (hk : k < s.size) (h : ((s[k].toNat : Int) == 95) = true) : nmP s k = true := by unfold nmP; rw [bI_eq s k hk, h]; simp
theorem nmP_dig {s : ByteArray} {k : Nat} (hk : k < s.size) (h0 : 0 < k) (h : digI (s[k].toNat : Int) = true) : nmP s k = true := by unfold nmP; rw [bI_eq s k hk, h]; simp [h0]
theorem nmP_no {s : ByteArray} {k : Nat} (hk : k < s.size) (h1 : ltrI (s[k].toNat : Int) = false) (h2 : ((s[k].toNat : Int) == 95) = false) (h3 : k = 0 ∨ digI (s[k].toNat : Int) = false) : nmP s k = false := by
  unfold nmP; rw [bI_eq s k hk, h1, h2]
  rcases h3 with h | h
  · subst h; rfl
  · rw [h]; simp

theorem nameLength_any (s : ByteArray) (n : Nat) (hn : nmLen s = n) (w : World) (hs : s.size ≤ 9223372036854775807) : Calls Tryd.prog 66 #[.string s] w fun e w' => e = .returned (.int .i64 n) ∧ w = w' := by
  have HN := Lib.hid hn
  clear hn
  go_enter Tryd.func66, Tryd.ntmps66
  go_wp2
  go_loop [3] (fun i => ∃ k : Nat, k ≤ s.size ∧ i = .int .i64 k ∧ ∀ j, j < k → nmP s j = true) (fun i => s.size - (intOf i).toNat)
  case atStart => exact ⟨0, Nat.zero_le _, rfl, fun j hj => absurd hj (by omega)⟩
  case round =>
    obtain ⟨k, hk, rfl, hall⟩ := hrel
    have HALL := Lib.hid hall
    clear hall
    by_cases hlt : k < s.size
    · have hx1 := (u8_lt s[k]).1
      have hx0 := (u8_lt s[k]).2
      have go_on : nmP s k = true → ∀ j, j < k + 1 → nmP s j = true := fun h j hj => by
        by_cases e : j = k
        · subst e; exact h
        · exact HALL.out j (by omega)
      have GO := Lib.hid go_on
      clear go_on
      have out_ : nmP s k = false → (k : Int) = n := fun h => by rw [← HN.out, nmLen_eq s k hk HALL.out (.inr h)]
      have OUT := Lib.hid out_
      clear out_
      by_cases hl : ltrI (s[k].toNat : Int) = true
      · go_wp2_with (first | (go_at_call 72; refine (isLetter_any _ _ (by omega) (by omega)).mono ?_; rintro e w' ⟨rfl, rfl⟩) | (go_at_call 73; refine (isDigit_any _ _ (by omega) (by omega)).mono ?_; rintro e w' ⟨rfl, rfl⟩))
        go_round
        case rel => exact ⟨k + 1, by omega, by go_num, GO.out (nmP_let hlt hl)⟩
        case measure => simp [intOf]; omega
      · have hl' : ltrI (s[k].toNat : Int) = false := by simpa using hl
        clear hl
        by_cases h95 : ((s[k].toNat : Int) == 95) = true
        · go_wp2_with (first | (go_at_call 72; refine (isLetter_any _ _ (by omega) (by omega)).mono ?_; rintro e w' ⟨rfl, rfl⟩) | (go_at_call 73; refine (isDigit_any _ _ (by omega) (by omega)).mono ?_; rintro e w' ⟨rfl, rfl⟩))
          go_round
          case rel => exact ⟨k + 1, by omega, by go_num, GO.out (nmP_95 hlt h95)⟩
          case measure => simp [intOf]; omega
        · have h95' : ((s[k].toNat : Int) == 95) = false := by simpa using h95
          clear h95
          by_cases hk0 : 0 < k
          · by_cases hd : digI (s[k].toNat : Int) = true
            · go_wp2_with (first | (go_at_call 72; refine (isLetter_any _ _ (by omega) (by omega)).mono ?_; rintro e w' ⟨rfl, rfl⟩) | (go_at_call 73; refine (isDigit_any _ _ (by omega) (by omega)).mono ?_; rintro e w' ⟨rfl, rfl⟩))
              go_round
              case rel => exact ⟨k + 1, by omega, by go_num, GO.out (nmP_dig hlt hk0 hd)⟩
              case measure => simp [intOf]; omega
            · have hd' : digI (s[k].toNat : Int) = false := by simpa using hd
              clear hd
              go_wp2_with (first | (go_at_call 72; refine (isLetter_any _ _ (by omega) (by omega)).mono ?_; rintro e w' ⟨rfl, rfl⟩) | (go_at_call 73; refine (isDigit_any _ _ (by omega) (by omega)).mono ?_; rintro e w' ⟨rfl, rfl⟩))
              go_ret
              exact ⟨ret_int (OUT.out (nmP_no hlt hl' h95' (.inr hd'))), rfl⟩
          · obtain rfl : k = 0 := by omega
            go_wp2_with (first | (go_at_call 72; refine (isLetter_any _ _ (by omega) (by omega)).mono ?_; rintro e w' ⟨rfl, rfl⟩) | (go_at_call 73; refine (isDigit_any _ _ (by omega) (by omega)).mono ?_; rintro e w' ⟨rfl, rfl⟩))
            go_ret
            exact ⟨ret_int (OUT.out (nmP_no hlt hl' h95' (.inl rfl))), rfl⟩
    · have hd : decide ((k : Int) < (s.size : Int)) = false := by simpa using hlt
      have hd2 : decide (k < s.size) = false := by simpa using hlt
      obtain rfl : k = s.size := by omega
      go_wp2_with (first | (go_at_call 72; refine (isLetter_any _ _ (by omega) (by omega)).mono ?_; rintro e w' ⟨rfl, rfl⟩) | (go_at_call 73; refine (isDigit_any _ _ (by omega) (by omega)).mono ?_; rintro e w' ⟨rfl, rfl⟩))
      go_ret
      exact ⟨ret_int (by rw [← HN.out, nmLen_eq s _ (Nat.le_refl _) HALL.out (.inl rfl)]), rfl⟩
theorem l14Name_any (s : ByteArray) (n : Nat) (hn : nmLen s = n) (w : World) (hs : s.size ≤ 9223372036854775807) : Calls Tryd.prog 64 #[.string s, .int .i64 0] w fun e w' => e = .returned (.int .i64 n) ∧ w = w' := by
  have HN := Lib.hid hn
  clear hn
  go_enter Tryd.func64, Tryd.ntmps64
  go_wp2
  go_loop [5] (fun i => ∃ k : Nat, k ≤ s.size ∧ i = .int .i64 k ∧ ∀ j, j < k → nmP s j = true) (fun i => s.size - (intOf i).toNat)
  case atStart => exact ⟨0, Nat.zero_le _, rfl, fun j hj => absurd hj (by omega)⟩
  case round =>
    obtain ⟨k, hk, rfl, hall⟩ := hrel
    have HALL := Lib.hid hall
    clear hall
    by_cases hlt : k < s.size
    · have hx1 := (u8_lt s[k]).1
      have hx0 := (u8_lt s[k]).2
      have go_on : nmP s k = true → ∀ j, j < k + 1 → nmP s j = true := fun h j hj => by
        by_cases e : j = k
        · subst e; exact h
        · exact HALL.out j (by omega)
      have GO := Lib.hid go_on
      clear go_on
      have out_ : nmP s k = false → (k : Int) = n := fun h => by rw [← HN.out, nmLen_eq s k hk HALL.out (.inr h)]
      have OUT := Lib.hid out_
      clear out_
      by_cases hl : (ltrI (s[k].toNat : Int) || (s[k].toNat : Int) == 95) = true
      · have hyes : nmP s k = true := by
          rcases (Bool.or_eq_true _ _).mp hl with h | h
          · exact nmP_let hlt h
          · exact nmP_95 hlt h
        have HY := Lib.hid hyes
        clear hyes
        go_wp2_with (first | (go_at_call 70; refine (l14Letter_any _ _ (by omega) (by omega)).mono ?_; rintro e w' ⟨rfl, rfl⟩) | (go_at_call 71; refine (l14Digit_any _ _ (by omega) (by omega)).mono ?_; rintro e w' ⟨rfl, rfl⟩))
        all_goals
          go_round
          case rel => exact ⟨k + 1, by omega, by go_num, GO.out HY.out⟩
          case measure => simp [intOf]; omega
      · have hl' : (ltrI (s[k].toNat : Int) || (s[k].toNat : Int) == 95) = false := by simpa using hl
        have hl1 : ltrI (s[k].toNat : Int) = false := (Bool.or_eq_false_iff.mp hl').1
        have hl2 : ((s[k].toNat : Int) == 95) = false := (Bool.or_eq_false_iff.mp hl').2
        clear hl hl'
        by_cases hk0 : 0 < k
        · by_cases hd : digI (s[k].toNat : Int) = true
          · go_wp2_with (first | (go_at_call 70; refine (l14Letter_any _ _ (by omega) (by omega)).mono ?_; rintro e w' ⟨rfl, rfl⟩) | (go_at_call 71; refine (l14Digit_any _ _ (by omega) (by omega)).mono ?_; rintro e w' ⟨rfl, rfl⟩))
            go_round
            case rel => exact ⟨k + 1, by omega, by go_num, GO.out (nmP_dig hlt hk0 hd)⟩
            case measure => simp [intOf]; omega
          · have hd' : digI (s[k].toNat : Int) = false := by simpa using hd
            clear hd
            go_wp2_with (first | (go_at_call 70; refine (l14Letter_any _ _ (by omega) (by omega)).mono ?_; rintro e w' ⟨rfl, rfl⟩) | (go_at_call 71; refine (l14Digit_any _ _ (by omega) (by omega)).mono ?_; rintro e w' ⟨rfl, rfl⟩))
            go_ret
            exact ⟨ret_int (OUT.out (nmP_no hlt hl1 hl2 (.inr hd'))), rfl⟩
        · obtain rfl : k = 0 := by omega
          go_wp2_with (first | (go_at_call 70; refine (l14Letter_any _ _ (by omega) (by omega)).mono ?_; rintro e w' ⟨rfl, rfl⟩) | (go_at_call 71; refine (l14Digit_any _ _ (by omega) (by omega)).mono ?_; rintro e w' ⟨rfl, rfl⟩))
          go_ret
          exact ⟨ret_int (OUT.out (nmP_no hlt hl1 hl2 (.inl rfl))), rfl⟩
    · have hd : decide ((k : Int) < (s.size : Int)) = false := by simpa using hlt
      have hd2 : decide (k < s.size) = false := by simpa using hlt
      obtain rfl : k = s.size := by omega
      go_wp2_with (first | (go_at_call 70; refine (l14Letter_any _ _ (by omega) (by omega)).mono ?_; rintro e w' ⟨rfl, rfl⟩) | (go_at_call 71; refine (l14Digit_any _ _ (by omega) (by omega)).mono ?_; rintro e w' ⟨rfl, rfl⟩))
      go_ret
      exact ⟨ret_int (by rw [← HN.out, nmLen_eq s _ (Nat.le_refl _) HALL.out (.inl rfl)]), rfl⟩
theorem name_impl (s : ByteArray) (w : World) (hs : s.size ≤ 9223372036854775807) : Calls Tryd.prog 55 #[.string s] w fun e w' => e = .returned (.bool (nameF s)) ∧ w = w' := by
  by_cases h20 : s.size ≤ 20
  · by_cases h0 : s.size = 0
    · have he : s.toList.isEmpty = true := by rw [List.isEmpty_iff]; exact List.eq_nil_of_length_eq_zero (by rw [size_toList, h0])
      have hn : nmLen s = 0 := by have := scan_le (nmP s) s.size 0; unfold nmLen; omega
      have h00 : ((0 : Nat) : Int) = (s.size : Int) := by omega
      have hi : ((s.size : Int) == 0) = true := by rw [h0]; rfl
      have hi' : ((0 : Int) == (s.size : Int)) = true := by rw [h0]; rfl
      have hf : nameF s = false := by unfold nameF; rw [h0]; rfl
      have HF := Lib.hid hf
      have HNN := Lib.hid hn
      clear hf hn h00 h0
      go_enter Tryd.func55, Tryd.ntmps55
      go_wp2_with (go_at_call 66; refine (nameLength_any _ 0 HNN.out _ (by omega)).mono ?_; rintro e w' ⟨rfl, rfl⟩)
      go_ret
      exact ⟨ret_bool HF.out.symm, rfl⟩
    · have he : s.toList.isEmpty = false := by
        rw [Bool.eq_false_iff]; intro h; rw [List.isEmpty_iff] at h; exact h0 (by rw [← size_toList, h]; rfl)
      by_cases ha : allB (nmP s) s.size = true
      · have hf : nameF s = true := by unfold nameF; rw [ha, decide_eq_true (by omega : 1 ≤ s.size), decide_eq_true h20]; rfl
        have HF := Lib.hid hf
        have HNN := Lib.hid (nmLen_all s ha)
        clear hf ha h0
        go_enter Tryd.func55, Tryd.ntmps55
        go_wp2_with (go_at_call 66; refine (nameLength_any _ s.size HNN.out _ (by omega)).mono ?_; rintro e w' ⟨rfl, rfl⟩)
        go_ret
        exact ⟨ret_bool HF.out.symm, rfl⟩
      · have ha' : allB (nmP s) s.size = false := by simpa using ha
        have hlt := nmLen_lt s ha'
        have hf : nameF s = false := by unfold nameF; rw [ha']; simp
        have HF := Lib.hid hf
        obtain ⟨n, hn⟩ : ∃ n, nmLen s = n := ⟨_, rfl⟩
        have hlt' : n < s.size := by omega
        have hne : ((n : Int) == (s.size : Int)) = false := by rw [beq_eq_false_iff_ne]; omega
        have hne2 : (n == s.size) = false := by rw [beq_eq_false_iff_ne]; omega
        have HNN := Lib.hid hn
        clear hf ha ha' h0 hn hlt
        go_enter Tryd.func55, Tryd.ntmps55
        go_wp2_with (go_at_call 66; refine (nameLength_any _ n HNN.out _ (by omega)).mono ?_; rintro e w' ⟨rfl, rfl⟩)
        go_ret
        exact ⟨ret_bool HF.out.symm, rfl⟩
  · have hd : decide ((s.size : Int) ≤ 20) = false := by simpa using (by omega : ¬ ((s.size : Int) ≤ 20))
    have hf : nameF s = false := by unfold nameF; rw [decide_eq_false h20]; simp
    have HF := Lib.hid hf
    clear hf
    go_enter Tryd.func55, Tryd.ntmps55
    go_wp2_with fail
    go_ret
    exact ⟨ret_bool HF.out.symm, rfl⟩
theorem name_spec (s : ByteArray) (w : World) (hs : s.size ≤ 9223372036854775807) : Calls Tryd.prog 51 #[.string s] w fun e w' => e = .returned (.bool (nameF s)) ∧ w = w' := by
  by_cases h1 : 1 ≤ s.size
  · by_cases h20 : s.size ≤ 20
    · by_cases ha : allB (nmP s) s.size = true
      · have hf : nameF s = true := by unfold nameF; rw [ha, decide_eq_true (by omega : 1 ≤ s.size), decide_eq_true h20]; rfl
        have HF := Lib.hid hf
        have HNN := Lib.hid (nmLen_all s ha)
        clear hf ha
        go_enter Tryd.func51, Tryd.ntmps51
        go_wp2_with (go_at_call 64; refine (l14Name_any _ s.size HNN.out _ (by omega)).mono ?_; rintro e w' ⟨rfl, rfl⟩)
        go_ret
        exact ⟨ret_bool HF.out.symm, rfl⟩
      · have ha' : allB (nmP s) s.size = false := by simpa using ha
        have hlt := nmLen_lt s ha'
        have hf : nameF s = false := by unfold nameF; rw [ha']; simp
        have HF := Lib.hid hf
        obtain ⟨n, hn⟩ : ∃ n, nmLen s = n := ⟨_, rfl⟩
        have hlt' : n < s.size := by omega
        have hne : ((n : Int) == (s.size : Int)) = false := by rw [beq_eq_false_iff_ne]; omega
        have hne2 : (n == s.size) = false := by rw [beq_eq_false_iff_ne]; omega
        have HNN := Lib.hid hn
        clear hf ha ha' hn hlt
        go_enter Tryd.func51, Tryd.ntmps51
        go_wp2_with (go_at_call 64; refine (l14Name_any _ n HNN.out _ (by omega)).mono ?_; rintro e w' ⟨rfl, rfl⟩)
        go_ret
        exact ⟨ret_bool HF.out.symm, rfl⟩
    · have hd : decide ((s.size : Int) ≤ 20) = false := by simpa using (by omega : ¬ ((s.size : Int) ≤ 20))
      have hf : nameF s = false := by unfold nameF; rw [decide_eq_false h20]; simp
      have HF := Lib.hid hf
      clear hf
      go_enter Tryd.func51, Tryd.ntmps51
      go_wp2_with fail
      go_ret
      exact ⟨ret_bool HF.out.symm, rfl⟩
  · have hd : decide ((1 : Int) ≤ (s.size : Int)) = false := by simpa using (by omega : ¬ ((1 : Int) ≤ (s.size : Int)))
    have hf : nameF s = false := by unfold nameF; rw [decide_eq_false h1]; simp
    have HF := Lib.hid hf
    clear hf
    go_enter Tryd.func51, Tryd.ntmps51
    go_wp2_with fail
    go_ret
    exact ⟨ret_bool HF.out.symm, rfl⟩
theorem good_impl (s : ByteArray) (w : World) (hs : s.size ≤ 9223372036854775807) : Calls Tryd.prog 37 #[.string s] w fun e w' => e = .returned (.bool (goodF s)) ∧ w = w' := by
  by_cases hn : nameF s = true
  · have HF := Lib.hid (show goodF s = !resF s.toList by unfold goodF; rw [hn]; rfl)
    go_enter Tryd.func37, Tryd.ntmps37
    go_wp2_with (first | (go_at_call 55; refine (name_impl _ _ (by omega)).mono ?_; rintro e w' ⟨rfl, rfl⟩) | (go_at_call 56; refine (res_impl _ _).mono ?_; rintro e w' ⟨rfl, rfl⟩))
    go_ret
    exact ⟨ret_bool HF.out.symm, rfl⟩
  · have hn' : nameF s = false := by simpa using hn
    have HF := Lib.hid (show goodF s = false by unfold goodF; rw [hn']; rfl)
    clear hn
    go_enter Tryd.func37, Tryd.ntmps37
    go_wp2_with (first | (go_at_call 55; refine (name_impl _ _ (by omega)).mono ?_; rintro e w' ⟨rfl, rfl⟩) | (go_at_call 56; refine (res_impl _ _).mono ?_; rintro e w' ⟨rfl, rfl⟩))
    go_ret
    exact ⟨ret_bool HF.out.symm, rfl⟩
theorem good_spec (s : ByteArray) (w : World) (hs : s.size ≤ 9223372036854775807) : Calls Tryd.prog 33 #[.string s] w fun e w' => e = .returned (.bool (goodF s)) ∧ Below w.heap.size w w' := by
  by_cases hn : nameF s = true
  · have HF := Lib.hid (show goodF s = !resF s.toList by unfold goodF; rw [hn]; rfl)
    go_enter Tryd.func33, Tryd.ntmps33
    go_wp2_with (first | (go_at_call 51; refine (name_spec _ _ (by omega)).mono ?_; rintro e w' ⟨rfl, rfl⟩) | (go_at_call 52; refine (res_spec _ _).mono ?_; rintro e w1 ⟨rfl, hb1⟩))
    go_ret
    exact ⟨ret_bool HF.out.symm, hb1⟩
  · have hn' : nameF s = false := by simpa using hn
    have HF := Lib.hid (show goodF s = false by unfold goodF; rw [hn']; rfl)
    clear hn
    go_enter Tryd.func33, Tryd.ntmps33
    go_wp2_with (first | (go_at_call 51; refine (name_spec _ _ (by omega)).mono ?_; rintro e w' ⟨rfl, rfl⟩) | (go_at_call 52; refine (res_spec _ _).mono ?_; rintro e w1 ⟨rfl, hb1⟩))
    go_ret
    exact ⟨ret_bool HF.out.symm, Below.refl _ _⟩
end Go.Proofs.YtgbeenieacnanaaDoor
