/-
  Decimal numerals: what ParseInt and ParseSigned answer, plain. Conditions: none.
-/
import Derived.Lib.AtoiTie
import Derived.Lib.ItoaLen
import Derived.Test.YtgbeenieacnanaaDoorBase
namespace Go.Proofs.YtgbeenieacnanaaDoor
set_option linter.unusedVariables false
set_option linter.unusedSimpArgs false
def itoG (n : Int) : ByteArray := ⟨(Lib.itoa n).toArray⟩
theorem itoG_list (n : Int) : (itoG n).data.toList = Lib.itoa n := rfl
theorem byte_dig (m : Nat) (h : m < 10) : Lib.digitVal (UInt8.ofNat (48 + m)) = some m := by
  unfold Lib.digitVal
  have e : (UInt8.ofNat (48 + m)).toNat = 48 + m := by
    rw [UInt8.toNat_ofNat']; omega
  rw [e, if_pos (by omega)]
  congr 1; omega
theorem decFrom_app : ∀ (l : List UInt8) (acc : Nat) (b : UInt8) (n d : Nat), Lib.decFrom acc l = some n → Lib.digitVal b = some d → Lib.decFrom acc (l ++ [b]) = some (n * 10 + d)
  | [], acc, b, n, d, h, hd => by
    simp only [Lib.decFrom, Option.some.injEq] at h
    subst h
    simp [Lib.decFrom, hd]
  | a :: r, acc, b, n, d, h, hd => by
    simp only [List.cons_append, Lib.decFrom] at h ⊢
    cases ha : Lib.digitVal a with
    | none => rw [ha] at h; cases h
    | some e =>
      rw [ha] at h
      exact decFrom_app r _ b n d h hd
theorem decFrom_digits (u : Nat) : Lib.decFrom 0 (Lib.decDigits u) = some u := by
  induction u using Nat.strongRecOn with
  | _ u ih =>
    rw [Lib.decDigits]
    by_cases h : u < 10
    · rw [dif_pos h]
      unfold Lib.decFrom
      rw [byte_dig u h]
      simp [Lib.decFrom]
    · rw [dif_neg h, decFrom_app _ 0 _ (u / 10) (u % 10) (ih (u / 10) (by omega)) (byte_dig _ (by omega))]
      congr 1; omega
theorem decDigits_ne (u : Nat) : Lib.decDigits u ≠ [] := fun h => by
  have h1 := Lib.decDigits_length u
  rw [h] at h1
  have := Lib.nDigits_pos u
  simp at h1; omega
theorem decNat_digits (u : Nat) : Lib.decNat (Lib.decDigits u) = some u := by
  unfold Lib.decNat
  rw [if_neg (by simpa using decDigits_ne u), decFrom_digits]
theorem digits_head (u : Nat) (b : UInt8) (r : List UInt8) (h : Lib.decDigits u = b :: r) : 48 ≤ b.toNat ∧ b.toNat ≤ 57 := by
  obtain ⟨d, hd⟩ := Lib.digit_of_decFrom _ 0 u (decFrom_digits u) 0 b (by rw [h]; rfl)
  unfold Lib.digitVal at hd
  split at hd
  · assumption
  · cases hd
theorem atoi_itoa (n : Int) : Lib.atoi (Lib.itoa n) = some n := by
  unfold Lib.itoa
  split
  · rename_i h
    show (if ((45 : UInt8) == 45) = true then (Lib.decNat (Lib.decDigits n.natAbs)).map fun (m : Nat) => -(m : Int) else if ((45 : UInt8) == 43) = true then (Lib.decNat (Lib.decDigits n.natAbs)).map fun (m : Nat) => (m : Int) else (Lib.decNat (45 :: Lib.decDigits n.natAbs)).map fun (m : Nat) => (m : Int)) = _
    rw [if_pos (by decide), decNat_digits]
    simp; omega
  · rename_i h
    cases e : Lib.decDigits n.toNat with
    | nil => exact absurd e (decDigits_ne _)
    | cons b r =>
      have hb := digits_head _ b r e
      have h1 : ¬ (b == 45) = true := fun hh => by
        have e1 : b = 45 := by simpa using hh
        rw [e1] at hb
        exact absurd hb (by decide)
      have h2 : ¬ (b == 43) = true := fun hh => by
        have e1 : b = 43 := by simpa using hh
        rw [e1] at hb
        exact absurd hb (by decide)
      show (if (b == 45) = true then (Lib.decNat r).map fun (m : Nat) => -(m : Int) else if (b == 43) = true then (Lib.decNat r).map fun (m : Nat) => (m : Int) else (Lib.decNat (b :: r)).map fun (m : Nat) => (m : Int)) = _
      rw [if_neg h1, if_neg h2, ← e, decNat_digits]
      simp; omega
theorem itoa_inj {a b : Int} (h : Lib.itoa a = Lib.itoa b) : a = b := by
  have h1 := atoi_itoa a
  rw [h, atoi_itoa] at h1
  injection h1 with h1; exact h1.symm
theorem itoG_inj {a b : Int} (h : itoG a = itoG b) : a = b := itoa_inj (by rw [← itoG_list, h, itoG_list])
theorem nDigits_le_of (k u : Nat) (hk : 1 ≤ k) (h : u < 10 ^ k) : Lib.nDigits u ≤ k := by
  induction k generalizing u with
  | zero => omega
  | succ k ih =>
    by_cases h1 : u < 10
    · rw [Lib.nDigits_small h1]; omega
    · rw [Lib.nDigits_big h1]
      rcases Nat.eq_zero_or_pos k with rfl | hk0
      · rw [show (0 + 1) = 1 from rfl, Nat.pow_one] at h; omega
      · have := ih (u / 10) hk0 (by rw [Nat.pow_succ] at h; omega)
        omega
theorem itoG_size (n : Int) (k : Nat) (hk : 1 ≤ k) (h0 : -(10 ^ k : Nat) < n) (h1 : n < (10 ^ k : Nat)) : (itoG n).size ≤ k + 1 := by
  show (Lib.itoa n).toArray.size ≤ _
  rw [List.size_toArray]
  unfold Lib.itoa
  split
  · rw [List.length_cons, Lib.decDigits_length]
    have := nDigits_le_of k n.natAbs hk (by omega)
    omega
  · rw [Lib.decDigits_length]
    have := nDigits_le_of k n.toNat hk (by omega)
    omega
theorem itoG_size0 (n : Int) (k : Nat) (hk : 1 ≤ k) (h0 : 0 ≤ n) (h1 : n < (10 ^ k : Nat)) : 1 ≤ (itoG n).size ∧ (itoG n).size ≤ k := by
  show 1 ≤ (Lib.itoa n).toArray.size ∧ (Lib.itoa n).toArray.size ≤ _
  rw [List.size_toArray]
  unfold Lib.itoa
  rw [if_neg (by omega), Lib.decDigits_length]
  have := nDigits_le_of k n.toNat hk (by omega)
  have := Lib.nDigits_pos n.toNat
  omega
/-- The number that a text spells as the program prints it, from least to most. -/
def pnF (lo hi : Int) (s : ByteArray) : Option Int := match Lib.atoi s.data.toList with
  | some n => if itoG n = s ∧ lo ≤ n ∧ n ≤ hi then some n else none
  | none => none
theorem pnF_iff {lo hi n : Int} {s : ByteArray} : pnF lo hi s = some n ↔ itoG n = s ∧ lo ≤ n ∧ n ≤ hi := by
  unfold pnF
  constructor
  · intro h
    split at h
    · split at h
      · rename_i m _ hm
        injection h with h
        subst h; exact hm
      · cases h
    · cases h
  · rintro ⟨rfl, h1, h2⟩
    rw [itoG_list, atoi_itoa]
    simp [h1, h2]
theorem pnF_none {lo hi : Int} {s : ByteArray} (h : ∀ n, itoG n = s → lo ≤ n → n ≤ hi → False) : pnF lo hi s = none := by
  cases e : pnF lo hi s with
  | none => rfl
  | some n =>
    obtain ⟨h1, h2, h3⟩ := pnF_iff.1 e
    exact absurd (h n h1 h2 h3) id
theorem atoiAll_itoa (n : Int) (h : (itoG n).size ≤ 18) : Lib.atoiAll (itoG n).data.toList = .ok n := by
  rw [Lib.atoiAll_short _ (by rw [Array.length_toList]; exact h), itoG_list, atoi_itoa]
  rfl
abbrev psF (s : ByteArray) : Option Int := pnF (-1000000000) 1000000000 s
abbrev piF (s : ByteArray) : Option Int := pnF 0 1000000000000 s
theorem ps_size {n : Int} (h0 : -1000000000 ≤ n) (h1 : n ≤ 1000000000) : (itoG n).size ≤ 11 := itoG_size n 10 (by decide) (by omega) (by omega)
theorem ps_long {s : ByteArray} (h : 20 < s.size) : psF s = none := pnF_none fun n e h0 h1 => by
  have := ps_size h0 h1
  rw [e] at this; omega
theorem ps_ok {s : ByteArray} {v : Int} (h : Lib.atoiAll s.data.toList = .ok v) : psF s = if itoG v = s ∧ -1000000000 ≤ v ∧ v ≤ 1000000000 then some v else none := by
  split
  · rename_i hv
    exact pnF_iff.2 hv
  · rename_i hv
    refine pnF_none fun n e h0 h1 => ?_
    subst e
    rw [atoiAll_itoa n (by have := ps_size h0 h1; omega)] at h
    injection h with h
    subst h
    exact hv ⟨rfl, h0, h1⟩
theorem ps_bad {s : ByteArray} (h : ∀ v, Lib.atoiAll s.data.toList ≠ .ok v) : psF s = none := pnF_none fun n e h0 h1 => by
  subst e
  exact h n (atoiAll_itoa n (by have := ps_size h0 h1; omega))
theorem pi_size {s : ByteArray} (h : ¬ (1 ≤ s.size ∧ s.size ≤ 13)) : piF s = none := pnF_none fun n e h0 h1 => by
  subst e
  exact h (itoG_size0 n 13 (by decide) h0 (by omega))
theorem itoa_pos {n : Int} (h : 0 ≤ n) : Lib.itoa n = Lib.decDigits n.toNat := by unfold Lib.itoa; rw [if_neg (by omega)]
theorem pi_digit {s : ByteArray} {k : Nat} {b : UInt8} (hb : s.data.toList[k]? = some b) (h : ¬ (48 ≤ b.toNat ∧ b.toNat ≤ 57)) : piF s = none := pnF_none fun n e h0 h1 => by
  subst e
  rw [itoG_list, itoa_pos h0] at hb
  obtain ⟨d, hd⟩ := Lib.digit_of_decFrom _ 0 _ (decFrom_digits n.toNat) k b hb
  unfold Lib.digitVal at hd
  rw [if_neg h] at hd
  cases hd
theorem pi_end {s : ByteArray} {x : Nat} (hx : Lib.decFrom 0 s.data.toList = some x) : piF s = if itoG x = s ∧ x ≤ 1000000000000 then some (x : Int) else none := by
  split
  · rename_i hv
    exact pnF_iff.2 ⟨hv.1, by omega, by omega⟩
  · rename_i hv
    refine pnF_none fun n e h0 h1 => ?_
    subst e
    rw [itoG_list, itoa_pos h0, decFrom_digits] at hx
    injection hx with hx
    have e2 : (x : Int) = n := by omega
    exact hv ⟨by rw [e2], by omega⟩
theorem decFrom_lt' (l : List UInt8) (x : Nat) (h : Lib.decFrom 0 l = some x) (hl : l.length ≤ 13) : x < 10000000000000 := by
  have h1 := Lib.decFrom_lt l 0 x h
  have hp : 10 ^ l.length ≤ 10 ^ 13 := Nat.pow_le_pow_right (by decide) hl
  have e : (10 : Nat) ^ 13 = 10000000000000 := by decide
  omega
/-- ParseSigned behind no sign. -/
theorem ps_plain {s : ByteArray} (h : s.data.toList.head? ≠ some 45) : psF s = match piF s with | some n => if n ≤ 1000000000 then some n else none | none => none := by
  cases e : piF s with
  | some n =>
    obtain ⟨h1, h2, h3⟩ := pnF_iff.1 e
    dsimp only
    split
    · rename_i hn
      exact pnF_iff.2 ⟨h1, by omega, hn⟩
    · rename_i hn
      refine pnF_none fun m em h0 h1' => ?_
      have := itoG_inj (em.trans h1.symm)
      omega
  | none =>
    refine pnF_none fun m em h0 h1' => ?_
    by_cases hm : 0 ≤ m
    · have e9 : piF s = some m := pnF_iff.2 ⟨em, hm, by omega⟩
      rw [e9] at e
      cases e
    · subst em
      rw [itoG_list] at h
      unfold Lib.itoa at h
      rw [if_pos (by omega)] at h
      exact h rfl
/-- ParseSigned behind '-'. -/
theorem ps_minus {s t : ByteArray} (h : s.data.toList = 45 :: t.data.toList) : psF s = match piF t with | some n => if n ≤ 1000000000 ∧ n ≠ 0 then some (-n) else none | none => none := by
  have key : ∀ m : Int, itoG m = s → m < 0 ∧ itoG (-m) = t := fun m em => by
    have e1 : Lib.itoa m = 45 :: t.data.toList := by rw [← h, ← em]; rfl
    unfold Lib.itoa at e1
    split at e1
    · rename_i hm
      refine ⟨hm, ?_⟩
      injection e1 with _ e1
      refine ByteArray.ext (Array.ext' ?_)
      show (itoG (-m)).data.toList = _
      rw [itoG_list, itoa_pos (by omega), ← e1]
      congr 1; omega
    · have hh := digits_head _ 45 _ e1
      exact absurd hh (by decide)
  cases e : piF t with
  | some n =>
    obtain ⟨h1, h2, h3⟩ := pnF_iff.1 e
    dsimp only
    split
    · rename_i hn
      refine pnF_iff.2 ⟨?_, by omega, by omega⟩
      refine ByteArray.ext (Array.ext' ?_)
      show (itoG (-n)).data.toList = _
      rw [itoG_list, h, ← h1, itoG_list, itoa_pos h2]
      unfold Lib.itoa
      rw [if_pos (by omega)]
      congr 2; omega
    · rename_i hn
      refine pnF_none fun m em h0 h1' => ?_
      obtain ⟨hm, e2⟩ := key m em
      have := itoG_inj (e2.trans h1.symm)
      exact hn ⟨by omega, by omega⟩
  | none =>
    refine pnF_none fun m em h0 h1' => ?_
    obtain ⟨hm, e2⟩ := key m em
    have e9 : piF t = some (-m) := pnF_iff.2 ⟨e2, by omega, by omega⟩
    rw [e9] at e
    cases e
end Go.Proofs.YtgbeenieacnanaaDoor
