/-
  Parts of the proof: PsS. Conditions: none.
-/
import Derived.Test.YtdmbhmhfjappcaaGreatDoorQGPsPIvP
import Derived.Test.YtdmbhmhfjappcaaGreatDoorQGStrName
import Derived.Test.YtdmbhmhfjappcaaGreatDoorQGBytFmt
namespace Go.Proofs.YtdmbhmhfjappcaaGreatDoor
open Go.ChangeShapes Go.WideShapes Go.ChangeAt Go.RowKit Go.Deep Go.Joins Go.Shelf
open Go.ChangeMaps (open_string shut_string)
set_option linter.unusedVariables false
set_option linter.unusedSimpArgs false
set_option maxRecDepth 100000
theorem data_at (s : ByteArray) (k : Nat) (h : k < s.size) : s.data.toList[k]? = some s[k] := by
  rw [List.getElem?_eq_getElem (by simpa using h)]
  rfl
theorem beq_str {t s : ByteArray} (h : ¬ t = s) : (t.toList == s.toList) = false := by
  rw [beq_eq_false_iff_ne]
  intro hh
  rw [ByteArray.toList_eq, ByteArray.toList_eq] at hh
  exact h (str_eq hh)
set_option maxHeartbeats 1000000 in
theorem pi_spec (s : ByteArray) (w : World) (hs : s.size ≤ 9223372036854775807) : Calls Tryz.prog 106 #[.string s] w fun e w' => e = .returned (.tuple #[.int .i64 ((piF s).getD 0), .bool (piF s).isSome]) ∧ Below w.heap.size w w' := by
  by_cases hz : 1 ≤ s.size ∧ s.size ≤ 13
  · have hin : inB (s.size : Int) 1 13 = true := inB_t (by omega)
    go_enter Tryz.func106, Tryz.ntmps106
    go_upto_region 3 with (go_at_call 28; refine (l1In_any _ _ _ _).mono ?_; rintro e w' ⟨rfl, rfl⟩)
    go_wp2_with fail
    go_loopw [4, 5] (fun v i wr => ∃ k x : Nat, k ≤ s.size ∧ i = .int .i64 k ∧ v = .int .i64 x ∧ Lib.decFrom 0 (s.data.toList.take k) = some x ∧ wr = w) (fun _ i _ => s.size - (intOf i).toNat)
    case atStart => exact ⟨0, 0, Nat.zero_le _, rfl, rfl, rfl, rfl⟩
    case round =>
      obtain ⟨k, x, hk, rfl, rfl, hd, rfl⟩ := hrel
      have hx := decFrom_lt' _ x hd (by rw [List.length_take]; omega)
      have HD := Lib.hid hd
      clear hd
      by_cases hlt : k < s.size
      · have hx1 := (u8_lt s[k]).1
        have hx0 := (u8_lt s[k]).2
        by_cases hd : 48 ≤ s[k].toNat ∧ s[k].toNat ≤ 57
        · have hin2 : inB (s[k].toNat : Int) 48 57 = true := inB_t (by omega)
          have hv : Lib.digitVal s[k] = some (s[k].toNat - 48) := by unfold Lib.digitVal; rw [if_pos hd]
          have HN := Lib.hid (Lib.decFrom_take _ k 0 x s[k] _ HD.out (data_at s k hlt) hv)
          clear hv
          generalize hb : s[k].toNat = b at *
          go_wp2_with (go_at_call 28; refine (l1In_any _ _ _ _).mono ?_; rintro e w' ⟨rfl, rfl⟩)
          go_roundw
          case rel => exact ⟨k + 1, x * 10 + (b - 48), by omega, by go_num, by go_num, HN.out, by first | rfl | trivial⟩
          case measure => simp [intOf]; omega
        · have hin2 : inB (s[k].toNat : Int) 48 57 = false := inB_f (by omega)
          have HN := Lib.hid (pi_digit (data_at s k hlt) hd)
          go_wp2_with (go_at_call 28; refine (l1In_any _ _ _ _).mono ?_; rintro e w' ⟨rfl, rfl⟩)
          go_ret2
          exact ⟨by rw [HN.out]; rfl, Below.refl _ _⟩
      · have hd1 : decide ((k : Int) < (s.size : Int)) = false := by simpa using hlt
        have hd2 : decide (k < s.size) = false := by simpa using hlt
        obtain rfl : k = s.size := by omega
        have HE := Lib.hid (pi_end (s := s) (x := x) (by rw [← HD.out, List.take_of_length_le (by rw [Array.length_toList]; exact Nat.le_refl _)]))
        clear HD
        have HF := Lib.hid (fun W => Fmt_spec (x : Int) (by omega) (by omega) W)
        have hsz : (itoG x).size ≤ 21 := itoF_size x (by omega) (by omega)
        rw [show itoF (x : Int) = itoG x from rfl] at HF
        generalize itoG (x : Int) = t at *
        by_cases h1 : (x : Int) > 1000000000000
        · have HG := Lib.hid (show piF s = none by rw [HE.out, if_neg (by omega)])
          go_wp2_with fail
          go_ret2
          exact ⟨by rw [HG.out]; rfl, Below.refl _ _⟩
        · by_cases h2 : t = s
          · subst h2
            have HG := Lib.hid (show piF t = some (x : Int) by rw [HE.out, if_pos ⟨rfl, by omega⟩])
            clear HE
            go_wp2_with (go_at_call 112; refine (HF.out _).mono ?_; rintro e w1 ⟨rfl, hb1⟩)
            go_ret2
            exact ⟨by rw [HG.out]; rfl, hb1⟩
          · have HG := Lib.hid (show piF s = none by rw [HE.out, if_neg (fun hh => h2 hh.1)])
            have hq := beq_str h2
            clear HE
            go_wp2_with (go_at_call 112; refine (HF.out _).mono ?_; rintro e w1 ⟨rfl, hb1⟩)
            go_ret2
            exact ⟨by rw [HG.out]; rfl, hb1⟩
  · have hin : inB (s.size : Int) 1 13 = false := inB_f (by omega)
    rw [pi_size hz]
    go_enter Tryz.func106, Tryz.ntmps106
    go_wp2_with (go_at_call 28; refine (l1In_any _ _ _ _).mono ?_; rintro e w' ⟨rfl, rfl⟩)
    go_ret2
    exact ⟨rfl, Below.refl _ _⟩
theorem head_45 (s : ByteArray) (h : 0 < s.size) : s.data.toList.head? = some s[0] := by
  have := data_at s 0 h
  cases e : s.data.toList with
  | nil => rw [e] at this; cases this
  | cons a r => rw [e] at this; simpa using this
theorem tail_45 (s : ByteArray) (h : 0 < s.size) (h0 : s[0].toNat = 45) : s.data.toList = 45 :: (s.extract 1 s.size).data.toList := by
  have h1 := head_45 s h
  have e2 : (s.extract 1 s.size).data.toList = s.data.toList.drop 1 := by
    show (s.extract 1 s.size).data.toList = _
    rw [ByteArray.data_extract, Array.toList_extract]
    simp only [List.extract]
    exact List.take_of_length_le (by rw [List.length_drop, Array.length_toList]; exact Nat.le_refl _)
  rw [e2]
  have e3 : s[0] = 45 := UInt8.toNat_inj.1 h0
  rw [e3] at h1
  cases e : s.data.toList with
  | nil => rw [e] at h1; cases h1
  | cons a r =>
    rw [e] at h1
    have : a = 45 := by simpa using h1
    subst this; simp
set_option maxHeartbeats 1000000 in
theorem ps_spec (s : ByteArray) (w : World) (hs : s.size ≤ 9223372036854775807) : Calls Tryz.prog 88 #[.string s] w fun e w' => e = .returned (.tuple #[.int .i64 ((psF s).getD 0), .bool (psF s).isSome]) ∧ Below w.heap.size w w' := by
  by_cases hm : ∃ h : 0 < s.size, s[0].toNat = 45
  · obtain ⟨h0, h45⟩ := hm
    have HT := tail_45 s h0 h45
    have hE := ps_minus HT
    have hsz : (s.extract 1 s.size).size + 1 = s.size := by rw [ByteArray.size_extract]; omega
    have HP := Lib.hid (fun W => pi_spec (s.extract 1 s.size) W (by omega))
    clear HT
    generalize hp : psF s = r at *
    clear hp
    generalize ht : s.extract 1 s.size = t at *
    have h45' : (s[0].toNat : Int) = 45 := by omega
    have hpn : ∀ n, piF t = some n → 0 ≤ n ∧ n ≤ 1000000000000 := fun n hn => (pnF_iff.1 hn).2
    generalize piF t = q at *
    cases q with
    | none =>
      dsimp only at hE
      subst hE
      go_enter Tryz.func88, Tryz.ntmps88
      go_wp2_with (go_at_call 106; refine (HP.out _).mono ?_; rintro e w1 ⟨rfl, hb1⟩)
      go_ret2
      exact ⟨rfl, hb1⟩
    | some n =>
      obtain ⟨n0, n1⟩ := hpn n rfl
      clear hpn
      dsimp only at hE
      by_cases hn : n ≤ 1000000000 ∧ n ≠ 0
      · rw [if_pos hn] at hE
        subst hE
        obtain ⟨hn1, hn2⟩ := hn
        have hn3 : (n == 0) = false := beq_false_of_ne hn2
        have hn4 : ¬ 1000000000 < n := by omega
        go_enter Tryz.func88, Tryz.ntmps88
        go_wp2_with (go_at_call 106; refine (HP.out _).mono ?_; rintro e w1 ⟨rfl, hb1⟩)
        go_ret2
        exact ⟨rfl, hb1⟩
      · rw [if_neg hn] at hE
        subst hE
        by_cases hz : n = 0
        · subst hz
          go_enter Tryz.func88, Tryz.ntmps88
          go_wp2_with (go_at_call 106; refine (HP.out _).mono ?_; rintro e w1 ⟨rfl, hb1⟩)
          go_ret2
          exact ⟨rfl, hb1⟩
        · have hn1 : 1000000000 < n := by omega
          clear hn
          go_enter Tryz.func88, Tryz.ntmps88
          go_wp2_with (go_at_call 106; refine (HP.out _).mono ?_; rintro e w1 ⟨rfl, hb1⟩)
          go_ret2
          exact ⟨rfl, hb1⟩
  · have hE := ps_plain (s := s) (fun hh => hm (by
      by_cases h0 : 0 < s.size
      · rw [head_45 s h0] at hh
        injection hh with hh
        exact ⟨h0, by rw [hh]; rfl⟩
      · have e : s.data.toList = [] := List.eq_nil_of_length_eq_zero (by rw [Array.length_toList]; show s.size = 0; omega)
        rw [e] at hh; cases hh))
    have HP := Lib.hid (fun W => pi_spec s W hs)
    have hpn : ∀ n, piF s = some n → 0 ≤ n ∧ n ≤ 1000000000000 := fun n hn => (pnF_iff.1 hn).2
    have hq0 : s.size = 0 → piF s = none := fun h => pi_size (by omega)
    generalize hp : psF s = r at *
    clear hp
    generalize piF s = q at *
    by_cases h0 : 0 < s.size
    · have h45 : (((s[0].toNat : Nat) : Int) == 45) = false := by
        rw [beq_eq_false_iff_ne]
        intro hh
        exact hm ⟨h0, by omega⟩
      clear hm
      cases q with
      | none =>
        dsimp only at hE
        subst hE
        go_enter Tryz.func88, Tryz.ntmps88
        go_wp2_with (go_at_call 106; refine (HP.out _).mono ?_; rintro e w1 ⟨rfl, hb1⟩)
        go_ret2
        exact ⟨rfl, hb1⟩
      | some n =>
        obtain ⟨n0, n1⟩ := hpn n rfl
        clear hpn
        dsimp only at hE
        by_cases hn : n ≤ 1000000000
        · rw [if_pos hn] at hE
          subst hE
          have hn4 : ¬ 1000000000 < n := by omega
          go_enter Tryz.func88, Tryz.ntmps88
          go_wp2_with (go_at_call 106; refine (HP.out _).mono ?_; rintro e w1 ⟨rfl, hb1⟩)
          go_ret2
          exact ⟨rfl, hb1⟩
        · rw [if_neg hn] at hE
          subst hE
          have hn1 : 1000000000 < n := by omega
          go_enter Tryz.func88, Tryz.ntmps88
          go_wp2_with (go_at_call 106; refine (HP.out _).mono ?_; rintro e w1 ⟨rfl, hb1⟩)
          go_ret2
          exact ⟨rfl, hb1⟩
    · have h0' : ¬ (0 : Int) < (s.size : Int) := by omega
      have hq : q = none := hq0 (by omega)
      subst hq
      dsimp only at hE
      subst hE
      clear hm hpn
      go_enter Tryz.func88, Tryz.ntmps88
      go_wp2_with (go_at_call 106; refine (HP.out _).mono ?_; rintro e w1 ⟨rfl, hb1⟩)
      go_ret2
      exact ⟨rfl, hb1⟩
end Go.Proofs.YtdmbhmhfjappcaaGreatDoor
