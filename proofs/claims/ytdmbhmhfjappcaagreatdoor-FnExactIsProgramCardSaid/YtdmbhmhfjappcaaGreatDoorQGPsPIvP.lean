/-
  Parts of the proof: PsP, IvP. Conditions: none.
-/
import Derived.Lib.AtoiTie
import Derived.Lib.ItoaLen
import Derived.Test.YtdmbhmhfjappcaaGreatDoorQGBasePsV
import Derived.Test.YtdmbhmhfjappcaaGreatDoorQGStrName
import Derived.Test.YtdmbhmhfjappcaaGreatDoorQDataG
namespace Go.Proofs.YtdmbhmhfjappcaaGreatDoor
set_option linter.unusedVariables false
set_option linter.unusedSimpArgs false
def itoG (n : Int) : ByteArray := ⟨(Lib.itoa n).toArray⟩
theorem itoG_list (n : Int) : (itoG n).data.toList = Lib.itoa n := rfl
theorem byte_dig (m : Nat) (h : m < 10) : Lib.digitVal (UInt8.ofNat (48 + m)) = some m := by
  unfold Lib.digitVal
  have e : (UInt8.ofNat (48 + m)).toNat = 48 + m := by
    rw [UInt8.toNat_ofNat']; omega
  rw [e, if_pos (by omega)]
  congr 1; omega
theorem decFrom_app : ∀ (l : List UInt8) (acc : Nat) (b : UInt8) (n d : Nat), Lib.decFrom acc l = some n → Lib.digitVal b = some d → Lib.decFrom acc (l ++ [b]) = some (n * 10 + d)
  | [], acc, b, n, d, h, hd => by
    simp only [Lib.decFrom, Option.some.injEq] at h
    subst h
    simp [Lib.decFrom, hd]
  | a :: r, acc, b, n, d, h, hd => by
    simp only [List.cons_append, Lib.decFrom] at h ⊢
    cases ha : Lib.digitVal a with
    | none => rw [ha] at h; cases h
    | some e =>
      rw [ha] at h
      exact decFrom_app r _ b n d h hd
theorem decFrom_digits (u : Nat) : Lib.decFrom 0 (Lib.decDigits u) = some u := by
  induction u using Nat.strongRecOn with
  | _ u ih =>
    rw [Lib.decDigits]
    by_cases h : u < 10
    · rw [dif_pos h]
      unfold Lib.decFrom
      rw [byte_dig u h]
      simp [Lib.decFrom]
    · rw [dif_neg h, decFrom_app _ 0 _ (u / 10) (u % 10) (ih (u / 10) (by omega)) (byte_dig _ (by omega))]
      congr 1; omega
theorem decDigits_ne (u : Nat) : Lib.decDigits u ≠ [] := fun h => by
  have h1 := Lib.decDigits_length u
  rw [h] at h1
  have := Lib.nDigits_pos u
  simp at h1; omega
theorem decNat_digits (u : Nat) : Lib.decNat (Lib.decDigits u) = some u := by
  unfold Lib.decNat
  rw [if_neg (by simpa using decDigits_ne u), decFrom_digits]
theorem digits_head (u : Nat) (b : UInt8) (r : List UInt8) (h : Lib.decDigits u = b :: r) : 48 ≤ b.toNat ∧ b.toNat ≤ 57 := by
  obtain ⟨d, hd⟩ := Lib.digit_of_decFrom _ 0 u (decFrom_digits u) 0 b (by rw [h]; rfl)
  unfold Lib.digitVal at hd
  split at hd
  · assumption
  · cases hd
theorem atoi_itoa (n : Int) : Lib.atoi (Lib.itoa n) = some n := by
  unfold Lib.itoa
  split
  · rename_i h
    show (if ((45 : UInt8) == 45) = true then (Lib.decNat (Lib.decDigits n.natAbs)).map fun (m : Nat) => -(m : Int) else if ((45 : UInt8) == 43) = true then (Lib.decNat (Lib.decDigits n.natAbs)).map fun (m : Nat) => (m : Int) else (Lib.decNat (45 :: Lib.decDigits n.natAbs)).map fun (m : Nat) => (m : Int)) = _
    rw [if_pos (by decide), decNat_digits]
    simp; omega
  · rename_i h
    cases e : Lib.decDigits n.toNat with
    | nil => exact absurd e (decDigits_ne _)
    | cons b r =>
      have hb := digits_head _ b r e
      have h1 : ¬ (b == 45) = true := fun hh => by
        have e1 : b = 45 := by simpa using hh
        rw [e1] at hb
        exact absurd hb (by decide)
      have h2 : ¬ (b == 43) = true := fun hh => by
        have e1 : b = 43 := by simpa using hh
        rw [e1] at hb
        exact absurd hb (by decide)
      show (if (b == 45) = true then (Lib.decNat r).map fun (m : Nat) => -(m : Int) else if (b == 43) = true then (Lib.decNat r).map fun (m : Nat) => (m : Int) else (Lib.decNat (b :: r)).map fun (m : Nat) => (m : Int)) = _
      rw [if_neg h1, if_neg h2, ← e, decNat_digits]
      simp; omega
theorem itoa_inj {a b : Int} (h : Lib.itoa a = Lib.itoa b) : a = b := by
  have h1 := atoi_itoa a
  rw [h, atoi_itoa] at h1
  injection h1 with h1; exact h1.symm
theorem itoG_inj {a b : Int} (h : itoG a = itoG b) : a = b := itoa_inj (by rw [← itoG_list, h, itoG_list])
theorem nDigits_le_of (k u : Nat) (hk : 1 ≤ k) (h : u < 10 ^ k) : Lib.nDigits u ≤ k := by
  induction k generalizing u with
  | zero => omega
  | succ k ih =>
    by_cases h1 : u < 10
    · rw [Lib.nDigits_small h1]; omega
    · rw [Lib.nDigits_big h1]
      rcases Nat.eq_zero_or_pos k with rfl | hk0
      · rw [show (0 + 1) = 1 from rfl, Nat.pow_one] at h; omega
      · have := ih (u / 10) hk0 (by rw [Nat.pow_succ] at h; omega)
        omega
theorem itoG_size (n : Int) (k : Nat) (hk : 1 ≤ k) (h0 : -(10 ^ k : Nat) < n) (h1 : n < (10 ^ k : Nat)) : (itoG n).size ≤ k + 1 := by
  show (Lib.itoa n).toArray.size ≤ _
  rw [List.size_toArray]
  unfold Lib.itoa
  split
  · rw [List.length_cons, Lib.decDigits_length]
    have := nDigits_le_of k n.natAbs hk (by omega)
    omega
  · rw [Lib.decDigits_length]
    have := nDigits_le_of k n.toNat hk (by omega)
    omega
theorem itoG_size0 (n : Int) (k : Nat) (hk : 1 ≤ k) (h0 : 0 ≤ n) (h1 : n < (10 ^ k : Nat)) : 1 ≤ (itoG n).size ∧ (itoG n).size ≤ k := by
  show 1 ≤ (Lib.itoa n).toArray.size ∧ (Lib.itoa n).toArray.size ≤ _
  rw [List.size_toArray]
  unfold Lib.itoa
  rw [if_neg (by omega), Lib.decDigits_length]
  have := nDigits_le_of k n.toNat hk (by omega)
  have := Lib.nDigits_pos n.toNat
  omega
/-- The number that a text spells as the program prints it, from least to most. -/
def pnF (lo hi : Int) (s : ByteArray) : Option Int := match Lib.atoi s.data.toList with
  | some n => if itoG n = s ∧ lo ≤ n ∧ n ≤ hi then some n else none
  | none => none
theorem pnF_iff {lo hi n : Int} {s : ByteArray} : pnF lo hi s = some n ↔ itoG n = s ∧ lo ≤ n ∧ n ≤ hi := by
  unfold pnF
  constructor
  · intro h
    split at h
    · split at h
      · rename_i m _ hm
        injection h with h
        subst h; exact hm
      · cases h
    · cases h
  · rintro ⟨rfl, h1, h2⟩
    rw [itoG_list, atoi_itoa]
    simp [h1, h2]
theorem pnF_none {lo hi : Int} {s : ByteArray} (h : ∀ n, itoG n = s → lo ≤ n → n ≤ hi → False) : pnF lo hi s = none := by
  cases e : pnF lo hi s with
  | none => rfl
  | some n =>
    obtain ⟨h1, h2, h3⟩ := pnF_iff.1 e
    exact absurd (h n h1 h2 h3) id
theorem atoiAll_itoa (n : Int) (h : (itoG n).size ≤ 18) : Lib.atoiAll (itoG n).data.toList = .ok n := by
  rw [Lib.atoiAll_short _ (by rw [Array.length_toList]; exact h), itoG_list, atoi_itoa]
  rfl
abbrev psF (s : ByteArray) : Option Int := pnF (-1000000000) 1000000000 s
abbrev piF (s : ByteArray) : Option Int := pnF 0 1000000000000 s
theorem ps_size {n : Int} (h0 : -1000000000 ≤ n) (h1 : n ≤ 1000000000) : (itoG n).size ≤ 11 := itoG_size n 10 (by decide) (by omega) (by omega)
theorem ps_long {s : ByteArray} (h : 20 < s.size) : psF s = none := pnF_none fun n e h0 h1 => by
  have := ps_size h0 h1
  rw [e] at this; omega
theorem ps_ok {s : ByteArray} {v : Int} (h : Lib.atoiAll s.data.toList = .ok v) : psF s = if itoG v = s ∧ -1000000000 ≤ v ∧ v ≤ 1000000000 then some v else none := by
  split
  · rename_i hv
    exact pnF_iff.2 hv
  · rename_i hv
    refine pnF_none fun n e h0 h1 => ?_
    subst e
    rw [atoiAll_itoa n (by have := ps_size h0 h1; omega)] at h
    injection h with h
    subst h
    exact hv ⟨rfl, h0, h1⟩
theorem ps_bad {s : ByteArray} (h : ∀ v, Lib.atoiAll s.data.toList ≠ .ok v) : psF s = none := pnF_none fun n e h0 h1 => by
  subst e
  exact h n (atoiAll_itoa n (by have := ps_size h0 h1; omega))
theorem pi_size {s : ByteArray} (h : ¬ (1 ≤ s.size ∧ s.size ≤ 13)) : piF s = none := pnF_none fun n e h0 h1 => by
  subst e
  exact h (itoG_size0 n 13 (by decide) h0 (by omega))
theorem itoa_pos {n : Int} (h : 0 ≤ n) : Lib.itoa n = Lib.decDigits n.toNat := by unfold Lib.itoa; rw [if_neg (by omega)]
theorem pi_digit {s : ByteArray} {k : Nat} {b : UInt8} (hb : s.data.toList[k]? = some b) (h : ¬ (48 ≤ b.toNat ∧ b.toNat ≤ 57)) : piF s = none := pnF_none fun n e h0 h1 => by
  subst e
  rw [itoG_list, itoa_pos h0] at hb
  obtain ⟨d, hd⟩ := Lib.digit_of_decFrom _ 0 _ (decFrom_digits n.toNat) k b hb
  unfold Lib.digitVal at hd
  rw [if_neg h] at hd
  cases hd
theorem pi_end {s : ByteArray} {x : Nat} (hx : Lib.decFrom 0 s.data.toList = some x) : piF s = if itoG x = s ∧ x ≤ 1000000000000 then some (x : Int) else none := by
  split
  · rename_i hv
    exact pnF_iff.2 ⟨hv.1, by omega, by omega⟩
  · rename_i hv
    refine pnF_none fun n e h0 h1 => ?_
    subst e
    rw [itoG_list, itoa_pos h0, decFrom_digits] at hx
    injection hx with hx
    have e2 : (x : Int) = n := by omega
    exact hv ⟨by rw [e2], by omega⟩
theorem decFrom_lt' (l : List UInt8) (x : Nat) (h : Lib.decFrom 0 l = some x) (hl : l.length ≤ 13) : x < 10000000000000 := by
  have h1 := Lib.decFrom_lt l 0 x h
  have hp : 10 ^ l.length ≤ 10 ^ 13 := Nat.pow_le_pow_right (by decide) hl
  have e : (10 : Nat) ^ 13 = 10000000000000 := by decide
  omega
/-- ParseSigned behind no sign. -/
theorem ps_plain {s : ByteArray} (h : s.data.toList.head? ≠ some 45) : psF s = match piF s with | some n => if n ≤ 1000000000 then some n else none | none => none := by
  cases e : piF s with
  | some n =>
    obtain ⟨h1, h2, h3⟩ := pnF_iff.1 e
    dsimp only
    split
    · rename_i hn
      exact pnF_iff.2 ⟨h1, by omega, hn⟩
    · rename_i hn
      refine pnF_none fun m em h0 h1' => ?_
      have := itoG_inj (em.trans h1.symm)
      omega
  | none =>
    refine pnF_none fun m em h0 h1' => ?_
    by_cases hm : 0 ≤ m
    · have e9 : piF s = some m := pnF_iff.2 ⟨em, hm, by omega⟩
      rw [e9] at e
      cases e
    · subst em
      rw [itoG_list] at h
      unfold Lib.itoa at h
      rw [if_pos (by omega)] at h
      exact h rfl
/-- ParseSigned behind '-'. -/
theorem ps_minus {s t : ByteArray} (h : s.data.toList = 45 :: t.data.toList) : psF s = match piF t with | some n => if n ≤ 1000000000 ∧ n ≠ 0 then some (-n) else none | none => none := by
  have key : ∀ m : Int, itoG m = s → m < 0 ∧ itoG (-m) = t := fun m em => by
    have e1 : Lib.itoa m = 45 :: t.data.toList := by rw [← h, ← em]; rfl
    unfold Lib.itoa at e1
    split at e1
    · rename_i hm
      refine ⟨hm, ?_⟩
      injection e1 with _ e1
      refine ByteArray.ext (Array.ext' ?_)
      show (itoG (-m)).data.toList = _
      rw [itoG_list, itoa_pos (by omega), ← e1]
      congr 1; omega
    · have hh := digits_head _ 45 _ e1
      exact absurd hh (by decide)
  cases e : piF t with
  | some n =>
    obtain ⟨h1, h2, h3⟩ := pnF_iff.1 e
    dsimp only
    split
    · rename_i hn
      refine pnF_iff.2 ⟨?_, by omega, by omega⟩
      refine ByteArray.ext (Array.ext' ?_)
      show (itoG (-n)).data.toList = _
      rw [itoG_list, h, ← h1, itoG_list, itoa_pos h2]
      unfold Lib.itoa
      rw [if_pos (by omega)]
      congr 2; omega
    · rename_i hn
      refine pnF_none fun m em h0 h1' => ?_
      obtain ⟨hm, e2⟩ := key m em
      have := itoG_inj (e2.trans h1.symm)
      exact hn ⟨by omega, by omega⟩
  | none =>
    refine pnF_none fun m em h0 h1' => ?_
    obtain ⟨hm, e2⟩ := key m em
    have e9 : piF t = some (-m) := pnF_iff.2 ⟨e2, by omega, by omega⟩
    rw [e9] at e
    cases e
end Go.Proofs.YtdmbhmhfjappcaaGreatDoor
namespace Go.Proofs.YtdmbhmhfjappcaaGreatDoor
set_option linter.unusedVariables false
set_option linter.unusedSimpArgs false
def emS (t : ByteArray) : Bool := t.toList.isEmpty
theorem emS_t {t : ByteArray} (h : t.toList = []) : emS t = true := by unfold emS; rw [h]; rfl
theorem emS_f {t : ByteArray} (h : ¬ t.toList = []) : emS t = false := by
  unfold emS
  cases e : t.toList with
  | nil => exact absurd e h
  | cons a r => rfl
theorem beqN_0 (m : Nat) : ((m : Int) == 0) = (m == 0) := by rw [Bool.eq_iff_iff]; simp
def kEq (a b : FKey) : Bool := a.a0 == b.a0 && a.a1 == b.a1 && a.a2.toList == b.a2.toList
theorem kEq_iff {a b : FKey} : kEq a b = true ↔ a = b := by
  obtain ⟨a0, a1, a2⟩ := a
  obtain ⟨b0, b1, b2⟩ := b
  unfold kEq
  simp only [Bool.and_eq_true, beq_iff_eq, FKey.mk.injEq]
  constructor
  · rintro ⟨⟨h1, h2⟩, h3⟩
    rw [ByteArray.toList_eq, ByteArray.toList_eq] at h3
    exact ⟨h1, h2, ByteArray.ext (Array.ext' h3)⟩
  · rintro ⟨h1, h2, h3⟩
    exact ⟨⟨h1, h2⟩, by rw [h3]⟩
def memK (S : List FKey) (a : FKey) : Bool := S.any fun b => kEq b a
theorem memK_iff {S : List FKey} {a : FKey} : memK S a = true ↔ a ∈ S := by
  unfold memK
  rw [List.any_eq_true]
  constructor
  · rintro ⟨b, hb, h⟩
    rw [kEq_iff] at h
    exact h ▸ hb
  · exact fun h => ⟨a, h, kEq_iff.2 rfl⟩
theorem memK_cons (S : List FKey) (b a : FKey) : memK (b :: S) a = (kEq b a || memK S a) := rfl
def keyF (a : FKey) : Bool := if a.a0 then a.a1 == 0 && decide (a.a2.size ≤ 400) && (psF a.a2).isNone else emS a.a2 && inB a.a1 (-1000000000) 1000000000
mutual
def wtF : FValue → Nat
  | .mk k _ _ _ l => if k == 4 then 1 + wtFs l else 1
def wtFs : List FEntry → Nat
  | [] => 0
  | .mk _ v :: r => wtF v + wtFs r
end
mutual
def plF : FValue → Bool
  | .mk k _ _ _ l => if k == 4 then plFs l else inB k 0 3
def plFs : List FEntry → Bool
  | [] => true
  | .mk _ v :: r => plF v && plFs r
end
/-- What a value that is no array needs. -/
def vH (k n : Int) (s : ByteArray) (x : Int) (m : Nat) : Bool := !(k != 3 && !emS s || (x != 0 || m != 0)) && (if k == 0 then n == 0 else if k == 1 then inB n 0 1 else if k == 2 then inB n (-1000000000) 1000000000 else if k == 3 then n == 0 && decide (s.size ≤ 400) else if k == 6 || k == 7 || k == 8 then inB n 0 255 else false)
mutual
def vF : FValue → Bool
  | .mk k n s x l => if k == 4 then emS s && n == 0 && inB x 0 1000000001 && vFs x [] l else vH k n s x l.length
def vFs (x : Int) (S : List FKey) : List FEntry → Bool
  | [] => true
  | .mk a v :: r => keyF a && !memK S a && !(!a.a0 && decide (x ≤ a.a1)) && vF v && vFs x (a :: S) r
end
/-- A value that may be kept. -/
def isV (v : FValue) : Bool := decide (wtF v ≤ 200) && vF v
def FEntry.key : FEntry → FKey
  | .mk a _ => a
def FEntry.vv : FEntry → FValue
  | .mk _ v => v
theorem vFs_cons (x : Int) (S : List FKey) (e : FEntry) (r : List FEntry) : vFs x S (e :: r) = (keyF e.key && !memK S e.key && !(!e.key.a0 && decide (x ≤ e.key.a1)) && vF e.vv && vFs x (e.key :: S) r) := by
  cases e; rw [vFs]; rfl
theorem plFs_cons (e : FEntry) (r : List FEntry) : plFs (e :: r) = (plF e.vv && plFs r) := by cases e; rw [plFs]; rfl
theorem wtFs_cons (e : FEntry) (r : List FEntry) : wtFs (e :: r) = wtF e.vv + wtFs r := by cases e; rw [wtFs]; rfl
theorem drop_of {l : List FEntry} {k : Nat} {e : FEntry} (h : l[k]? = some e) : l.drop k = e :: l.drop (k + 1) := by
  obtain ⟨hk, rfl⟩ := List.getElem?_eq_some_iff.1 h
  exact List.drop_eq_getElem_cons hk
/-- The keys of the first entries, the last ahead. -/
def ksF (l : List FEntry) (k : Nat) : List FKey := ((l.take k).map FEntry.key).reverse
theorem ksF_succ {l : List FEntry} {k : Nat} {e : FEntry} (h : l[k]? = some e) : ksF l (k + 1) = e.key :: ksF l k := by
  obtain ⟨hk, rfl⟩ := List.getElem?_eq_some_iff.1 h
  unfold ksF
  rw [List.take_succ_eq_append_getElem hk, List.map_append, List.reverse_append]
  rfl
theorem ksF_mem {l : List FEntry} {k : Nat} {a : FKey} : a ∈ ksF l k ↔ ∃ j e, j < k ∧ l[j]? = some e ∧ e.key = a := by
  unfold ksF
  rw [List.mem_reverse, List.mem_map]
  constructor
  · rintro ⟨e, he, rfl⟩
    obtain ⟨j, hj⟩ := List.mem_iff_getElem?.1 he
    rw [List.getElem?_take] at hj
    split at hj
    · exact ⟨j, e, by assumption, hj, rfl⟩
    · cases hj
  · rintro ⟨j, e, hj, he, rfl⟩
    exact ⟨e, List.mem_iff_getElem?.2 ⟨j, by rw [List.getElem?_take, if_pos hj]; exact he⟩, rfl⟩
/-- Where a key stands, from some index on; -1: nowhere. -/
def fkF (a : FKey) : Nat → List FEntry → Int
  | _, [] => -1
  | k, e :: r => if kEq e.key a then (k : Int) else fkF a (k + 1) r
theorem fkF_ge (a : FKey) : ∀ (l : List FEntry) (k : Nat), fkF a k l = -1 ∨ (k : Int) ≤ fkF a k l
  | [], k => .inl rfl
  | e :: r, k => by
    rw [fkF]
    split
    · exact .inr (by omega)
    · rcases fkF_ge a r (k + 1) with h | h
      · exact .inl h
      · exact .inr (by omega)
theorem fkF_no {a : FKey} : ∀ (l : List FEntry) (k : Nat), fkF a k l = -1 → ∀ e, e ∈ l → e.key ≠ a
  | [], k, _, e, he => by cases he
  | y :: r, k, h, e, he => by
    rw [fkF] at h
    split at h
    · omega
    · rename_i hn
      rcases List.mem_cons.1 he with rfl | he
      · exact fun hh => hn (kEq_iff.2 hh)
      · exact fkF_no r (k + 1) h e he
theorem fkF_yes {a : FKey} : ∀ (l : List FEntry) (k m : Nat), fkF a k l = m → ∃ e, l[m - k]? = some e ∧ e.key = a ∧ k ≤ m ∧ ∀ j e', j < m - k → l[j]? = some e' → e'.key ≠ a
  | [], k, m, h => by rw [fkF] at h; omega
  | y :: r, k, m, h => by
    rw [fkF] at h
    split at h
    · rename_i hy
      obtain rfl : k = m := by omega
      exact ⟨y, by simp, kEq_iff.1 hy, Nat.le_refl _, fun j e' hj => by omega⟩
    · rename_i hy
      obtain ⟨e, h1, h2, h3, h4⟩ := fkF_yes r (k + 1) m h
      refine ⟨e, ?_, h2, by omega, fun j e' hj he => ?_⟩
      · rw [show m - k = (m - (k + 1)) + 1 from by omega, List.getElem?_cons_succ]; exact h1
      · cases j with
        | zero =>
          have : y = e' := by simpa using he
          subst this
          exact fun hh => hy (kEq_iff.2 hh)
        | succ j => exact h4 j e' (by omega) (by simpa using he)
/-- The reference finds a key at its own index where it did not stand before. -/
theorem fkF_at {l : List FEntry} {k : Nat} {e : FEntry} (h : l[k]? = some e) : (fkF e.key 0 l = (k : Int)) ↔ memK (ksF l k) e.key = false := by
  constructor
  · intro hf
    obtain ⟨e1, h1, h2, h3, h4⟩ := fkF_yes l 0 k hf
    cases hm : memK (ksF l k) e.key with
    | false => rfl
    | true =>
      obtain ⟨j, e', hj, he', hk⟩ := ksF_mem.1 (memK_iff.1 hm)
      exact absurd hk (h4 j e' (by omega) he')
  · intro hm
    rcases fkF_ge e.key l 0 with hf | hf
    · exact absurd rfl (fkF_no l 0 hf e (List.mem_of_getElem? h))
    · obtain ⟨m, hm'⟩ : ∃ m : Nat, fkF e.key 0 l = m := ⟨(fkF e.key 0 l).toNat, by omega⟩
      obtain ⟨e1, h1, h2, h3, h4⟩ := fkF_yes l 0 m hm'
      rw [hm']
      have hge : ¬ m < k := fun hlt => by
        have : memK (ksF l k) e.key = true := memK_iff.2 (ksF_mem.2 ⟨m, e1, hlt, by simpa using h1, h2⟩)
        rw [hm] at this; cases this
      have hle : ¬ k < m := fun hlt => h4 k e (by omega) h rfl
      omega
mutual
theorem wtF_le : ∀ v : FValue, wtF v ≤ 1 + v.wt
  | .mk k n s x l => by
    rw [wtF, FValue.wt_eq]
    have := wtFs_le l
    split <;> omega
theorem wtFs_le : ∀ l : List FEntry, wtFs l ≤ l.length + FEntry.wts l
  | [] => by rw [wtFs]; simp
  | .mk a v :: r => by
    rw [wtFs, List.length_cons]
    have h1 := wtF_le v
    have h2 := wtFs_le r
    obtain ⟨a0, a1, a2⟩ := a
    obtain ⟨k, n, s, x, l⟩ := v
    rw [FValue.wt_eq] at h1
    have h3 : FEntry.wts (FEntry.mk ⟨a0, a1, a2⟩ ⟨k, n, s, x, l⟩ :: r) = FEntry.wt ⟨⟨a0, a1, a2⟩, ⟨k, n, s, x, l⟩⟩ + FEntry.wts r := by rw [FEntry.wts]
    rw [h3, FEntry.wt_eq]
    omega
end
theorem wtF_pos (v : FValue) : 1 ≤ wtF v := by
  cases v; rw [wtF]; split <;> omega
theorem wtFs_take {l : List FEntry} {k : Nat} {e : FEntry} (h : l[k]? = some e) : wtFs (l.take (k + 1)) = wtFs (l.take k) + wtF e.vv := by
  obtain ⟨hk, rfl⟩ := List.getElem?_eq_some_iff.1 h
  rw [List.take_succ_eq_append_getElem hk]
  have app : ∀ (a b : List FEntry), wtFs (a ++ b) = wtFs a + wtFs b := fun a b => by
    induction a with
    | nil => rw [List.nil_append, show wtFs [] = 0 from by rw [wtFs]]; omega
    | cons y r ih => rw [List.cons_append, wtFs_cons, wtFs_cons, ih]; omega
  rw [app, wtFs_cons, show wtFs [] = 0 from by rw [wtFs]]
  rfl
theorem wtFs_takele (l : List FEntry) (k : Nat) : wtFs (l.take k) ≤ wtFs l := by
  induction l generalizing k with
  | nil => simp
  | cons y r ih =>
    cases k with
    | zero => rw [List.take_zero, show wtFs [] = 0 from by rw [wtFs]]; omega
    | succ k => rw [List.take_succ_cons, wtFs_cons, wtFs_cons]; have := ih k; omega
end Go.Proofs.YtdmbhmhfjappcaaGreatDoor
