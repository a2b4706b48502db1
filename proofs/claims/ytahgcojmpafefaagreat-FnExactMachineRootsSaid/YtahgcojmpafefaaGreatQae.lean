/-
  Parts of the proof: MkM. Conditions: none.
-/
import Derived.Test.YtahgcojmpafefaaGreatQaa
import Derived.Test.YtahgcojmpafefaaGreatQab
set_option linter.unusedVariables false
set_option linter.unusedSimpArgs false
namespace Go.Proofs.YtahgcojmpafefaaGreat
set_option maxHeartbeats 40000000
open Lib (hid)
open Go.ChangeShapes Go.WideShapes Go.ChangeAt Go.RowKit Go.Deep Go.Joins
open Go.ChangeMaps (open_string shut_string)
set_option maxRecDepth 100000
theorem FInt.flat_len (l : List FInt) : (FInt.flat l).length = l.length * 1 := by
  induction l with
  | nil => simp
  | cons x r ih =>
    have e : FInt.flat (x :: r) = x.c ++ FInt.flat r := List.flatMap_cons
    rw [e, List.length_append, ih, FInt.len, List.length_cons]
    omega
theorem FInt.flat_at (l : List FInt) (k : Nat) (x : FInt) (h : l[k]? = some x) : l.drop k = x :: l.drop (k + 1) := by
  have hk := (List.getElem?_eq_some_iff.1 h).1
  rw [List.drop_eq_getElem_cons hk, (List.getElem?_eq_some_iff.1 h).2]
theorem FInt.flat_take (l : List FInt) (k : Nat) (x : FInt) (h : l[k]? = some x) : FInt.flat (l.take (k + 1)) = FInt.flat (l.take k) ++ x.c := by
  rw [List.take_add_one, h]
  simp [FInt.flat]
theorem FInt.flat_split (l : List FInt) (k : Nat) (x : FInt) (h : l[k]? = some x) : FInt.flat l = FInt.flat (l.take k) ++ (x.c ++ FInt.flat (l.drop (k + 1))) := by
  have e : FInt.flat (l.take k ++ l.drop k) = FInt.flat (l.take k) ++ FInt.flat (l.drop k) := List.flatMap_append
  rw [List.take_append_drop] at e
  rw [e, FInt.flat_at l k x h]
  have e2 : FInt.flat (x :: l.drop (k + 1)) = x.c ++ FInt.flat (l.drop (k + 1)) := List.flatMap_cons
  rw [e2]
theorem FInt.cnt_at (l : List FInt) (k : Nat) (x : FInt) (h : l[k]? = some x) : cntL (FInt.flat (l.take k)) + cntL x.c ≤ cntL (FInt.flat l) := by
  rw [FInt.flat_split l k x h, cntL_append, cntL_append]
  omega
theorem FInt.cnt_eq (z0 : Int) : cntL (FInt.c ⟨z0⟩) = 1 := by
  rw [FInt.c_eq]
  simp only [cntL, Cel.cnt]
  try omega
def MarkIntS (l : List FInt) : Prop := ∀ (u : Value) (k0 : Int) (F : List Nat) (w : World), 1 ≤ k0 → k0 + (cntL (FInt.flat l) : Int) ≤ 1000000000000000 → F.Nodup → OwnC w (.s 3 1 l.length (FInt.flat l)) F u → Calls Tryz.prog 83 #[u, .int .i64 k0] w fun e w' => e = .returned (.int .i64 (k0 + (cntL (FInt.flat l) : Int))) ∧ OwnC w' (.s 3 1 l.length (mkL (FInt.flat l) k0)) F u ∧ OnlyF F w w'
theorem cntb1_Int (x : FInt) : cntL x.c ≤ 20 + 20 * x.wt := by
  obtain ⟨z0⟩ := x
  rw [FInt.cnt_eq, FInt.wt_eq]
  omega
theorem cntb_IntS : ∀ l : List FInt, cntL (FInt.flat l) ≤ 20 * (l.length + FInt.wts l)
  | [] => by simp [cntL]
  | x :: r => by
    have e : FInt.flat (x :: r) = x.c ++ FInt.flat r := List.flatMap_cons
    have h1 := cntb1_Int x
    have h2 := cntb_IntS r
    rw [e, cntL_append, FInt.wts, List.length_cons]
    omega
theorem markIntS_of (l : List FInt) : MarkIntS l := by
  intro u k0 F w h1 h2 hF hO
  obtain ⟨A, c, rfl⟩ := hO.form
  have hcap := hO.read.cap
  have hn : l.length ≤ 9223372036854775807 := by unfold maxLen at hcap; omega
  have HO := hid hO
  clear hcap
  by_cases hl0 : l.length = 0
  · obtain rfl : l = [] := List.eq_nil_of_length_eq_zero hl0
    clear hO hl0
    go_enter Tryz.func83, Tryz.ntmps83
    go_wp2_with fail
    go_loop [1, 5] (fun kv i => kv = .int .i64 k0 ∧ i = .int .i64 0) (fun _ i => 0)
    case atStart => exact ⟨rfl, rfl⟩
    case round =>
      obtain ⟨rfl, rfl⟩ := hrel
      go_wp2_with fail
      go_ret
      exact ⟨ret_int (by simp [cntL]), by simpa [mkL] using HO.out, OnlyF.refl _ _⟩
  obtain ⟨g, hA, hg⟩ := hO.head (by omega)
  subst hA
  have HG := hid hg
  clear hO hg hl0
  go_enter Tryz.func83, Tryz.ntmps83
  go_wp2_with fail
  go_loopw [1, 5] (fun kv i wr => ∃ (k : Nat) (kk : Int), k ≤ l.length ∧ i = .int .i64 k ∧ kv = .int .i64 kk ∧ kk = k0 + (cntL (FInt.flat (l.take k)) : Int) ∧ OwnC wr (.s 3 1 l.length (mkL (FInt.flat (l.take k)) k0 ++ FInt.flat (l.drop k))) F (.slice (some ⟨g, 0, none⟩) l.length c) ∧ OnlyF F w wr) (fun _ i _ => l.length - (intOf i).toNat)
  case atStart => exact ⟨0, k0, Nat.zero_le _, rfl, rfl, by simp [cntL], by simpa [mkL] using HO.out, OnlyF.refl _ _⟩
  case round =>
    obtain ⟨k, kk, hk, rfl, rfl, hkk, hO, hG⟩ := hrel
    have HKK := hid hkk
    have HO1 := hid hO
    have HGG := hid hG
    clear hO hG
    by_cases hlt : k < l.length
    · obtain ⟨x, hx⟩ : ∃ x, l[k]? = some x := ⟨_, List.getElem?_eq_getElem hlt⟩
      have HX := hid hx
      have hca := FInt.cnt_at l k x hx
      have hD0 : (mkL (FInt.flat (l.take k)) k0).length = k * 1 := by rw [mkL_len, FInt.flat_len, List.length_take]; congr 1; omega
      have hO2 := HO1.out
      rw [FInt.flat_at l k x hx] at hO2
      obtain ⟨z0⟩ := x
      rw [show FInt.flat (⟨z0⟩ :: l.drop (k + 1)) = (FInt.c ⟨z0⟩) ++ FInt.flat (l.drop (k + 1)) from List.flatMap_cons, FInt.c_eq] at hO2
      rw [FInt.cnt_eq] at hca
      obtain ⟨D, hDD⟩ : ∃ D, D = mkL (FInt.flat (l.take k)) k0 := ⟨_, rfl⟩
      rw [← hDD] at hD0 hO2
      obtain ⟨R, hRR⟩ : ∃ R, R = FInt.flat (l.drop (k + 1)) := ⟨_, rfl⟩
      rw [← hRR] at hO2
      have HD := hid hD0
      have HDD := hid hDD
      have HRR := hid hRR
      have hkp : 1 ≤ kk := by omega
      generalize hCC : cntL (FInt.flat (l.take k)) = CC at *
      have hkb : kk + ((1 : Nat) : Int) ≤ 1000000000000000 := by omega
      have HCC := hid hCC
      clear hx hD0 hDD hRR hkk hca hCC 
      obtain ⟨f0, hrow0, hnc0, hln0⟩ := hO2.row
      have hkc : k + 1 ≤ c := by omega
      have q0 := hrow0.cell (i := k) (by omega)
      have y0 := hrow0.frozen (k)
      clear hrow0
      go_wp2_with fail
      clear hkc y0 q0
      have O0_0 := OwnC.setv (D := D) (y := .int .i64 z0) (R := R) (by simp only [List.append_assoc, List.cons_append, List.nil_append] at hO2 ⊢; exact hO2) hF (.int .i64 (kk)) (k) (by simp [HD.out])
      clear hO2
      go_roundw
      case rel =>
        have hmk : mkL (FInt.c ⟨z0⟩) kk = [.v (.int .i64 (kk))] := by
          rw [FInt.c_eq]
          rw [mkL_v (kk + 1) (by omega)]
          rw [mkL_nil]
          rfl
        have hcn : cntL (FInt.flat (l.take (k + 1))) = CC + (1) := by
          rw [FInt.flat_take l k _ HX.out, cntL_append, HCC.out, FInt.cnt_eq]
          try omega
        have hall : mkL (FInt.flat (l.take (k + 1))) k0 = D ++ [.v (.int .i64 (kk))] := by
          rw [FInt.flat_take l k _ HX.out, mkL_append, HCC.out, ← HKK.out, ← HDD.out, hmk]
        refine ⟨k + 1, _, by omega, by go_num, rfl, ?_, ?_, (OnlyF.set HGG.out (p := ⟨g, k, none⟩) HG.out (.int .i64 (kk)))⟩
        · rw [hcn]
          have := HKK.out
          omega
        · rw [hall, ← HRR.out]
          simp only [List.append_assoc, List.cons_append, List.nil_append] at O0_0 ⊢
          exact O0_0
      case measure => simp [intOf]; omega
    · obtain rfl : k = l.length := by omega
      clear hlt
      go_wp2_with fail
      go_ret
      have e := HO1.out
      rw [List.take_length, List.drop_length] at e
      have e2 := HKK.out
      rw [List.take_length] at e2
      exact ⟨ret_int e2, by simpa using e, HGG.out⟩
theorem markIntS_any (l : List FInt) : MarkIntS l := markIntS_of l
theorem FEntry.flat_len (l : List FEntry) : (FEntry.flat l).length = l.length * 8 := by
  induction l with
  | nil => simp
  | cons x r ih =>
    have e : FEntry.flat (x :: r) = x.c ++ FEntry.flat r := List.flatMap_cons
    rw [e, List.length_append, ih, FEntry.len, List.length_cons]
    omega
theorem FEntry.flat_at (l : List FEntry) (k : Nat) (x : FEntry) (h : l[k]? = some x) : l.drop k = x :: l.drop (k + 1) := by
  have hk := (List.getElem?_eq_some_iff.1 h).1
  rw [List.drop_eq_getElem_cons hk, (List.getElem?_eq_some_iff.1 h).2]
theorem FEntry.flat_take (l : List FEntry) (k : Nat) (x : FEntry) (h : l[k]? = some x) : FEntry.flat (l.take (k + 1)) = FEntry.flat (l.take k) ++ x.c := by
  rw [List.take_add_one, h]
  simp [FEntry.flat]
theorem FEntry.flat_split (l : List FEntry) (k : Nat) (x : FEntry) (h : l[k]? = some x) : FEntry.flat l = FEntry.flat (l.take k) ++ (x.c ++ FEntry.flat (l.drop (k + 1))) := by
  have e : FEntry.flat (l.take k ++ l.drop k) = FEntry.flat (l.take k) ++ FEntry.flat (l.drop k) := List.flatMap_append
  rw [List.take_append_drop] at e
  rw [e, FEntry.flat_at l k x h]
  have e2 : FEntry.flat (x :: l.drop (k + 1)) = x.c ++ FEntry.flat (l.drop (k + 1)) := List.flatMap_cons
  rw [e2]
theorem FEntry.cnt_at (l : List FEntry) (k : Nat) (x : FEntry) (h : l[k]? = some x) : cntL (FEntry.flat (l.take k)) + cntL x.c ≤ cntL (FEntry.flat l) := by
  rw [FEntry.flat_split l k x h, cntL_append, cntL_append]
  omega
theorem FEntry.cnt_eq (z0 : Bool) (z1 : Int) (z2 : ByteArray) (z3 : Int) (z4 : Int) (z5 : ByteArray) (z6 : Int) (z7 : List FEntry) : cntL (FEntry.c ⟨⟨z0, z1, z2⟩, ⟨z3, z4, z5, z6, z7⟩⟩) = 7 + cntL (FEntry.flat z7) := by
  rw [FEntry.c_eq]
  simp only [cntL, Cel.cnt]
  try omega
def MarkEntryS (l : List FEntry) : Prop := ∀ (u : Value) (k0 : Int) (F : List Nat) (w : World), 1 ≤ k0 → k0 + (cntL (FEntry.flat l) : Int) ≤ 1000000000000000 → F.Nodup → OwnC w (.s 153 8 l.length (FEntry.flat l)) F u → Calls Tryz.prog 50 #[u, .int .i64 k0] w fun e w' => e = .returned (.int .i64 (k0 + (cntL (FEntry.flat l) : Int))) ∧ OwnC w' (.s 153 8 l.length (mkL (FEntry.flat l) k0)) F u ∧ OnlyF F w w'
def HeldEntryS (l : List FEntry) : Prop := ∀ (u : Value) (k0 : Int) (w : World), 1 ≤ k0 → k0 + (cntL (FEntry.flat l) : Int) ≤ 1000000000000000 → RdC w w.heap.size (.s 153 8 l.length (mkL (FEntry.flat l) k0)) u → Calls Tryz.prog 51 #[u, .int .i64 k0] w fun e w' => e = .returned (.int .i64 (k0 + (cntL (FEntry.flat l) : Int))) ∧ Below w.heap.size w w'
def MkEntry : FEntry → Prop
  | ⟨⟨z0, z1, z2⟩, ⟨z3, z4, z5, z6, z7⟩⟩ => MarkEntryS z7
def HdEntry : FEntry → Prop
  | ⟨⟨z0, z1, z2⟩, ⟨z3, z4, z5, z6, z7⟩⟩ => HeldEntryS z7
theorem FValue.flat_len (l : List FValue) : (FValue.flat l).length = l.length * 5 := by
  induction l with
  | nil => simp
  | cons x r ih =>
    have e : FValue.flat (x :: r) = x.c ++ FValue.flat r := List.flatMap_cons
    rw [e, List.length_append, ih, FValue.len, List.length_cons]
    omega
theorem FValue.flat_at (l : List FValue) (k : Nat) (x : FValue) (h : l[k]? = some x) : l.drop k = x :: l.drop (k + 1) := by
  have hk := (List.getElem?_eq_some_iff.1 h).1
  rw [List.drop_eq_getElem_cons hk, (List.getElem?_eq_some_iff.1 h).2]
theorem FValue.flat_take (l : List FValue) (k : Nat) (x : FValue) (h : l[k]? = some x) : FValue.flat (l.take (k + 1)) = FValue.flat (l.take k) ++ x.c := by
  rw [List.take_add_one, h]
  simp [FValue.flat]
theorem FValue.flat_split (l : List FValue) (k : Nat) (x : FValue) (h : l[k]? = some x) : FValue.flat l = FValue.flat (l.take k) ++ (x.c ++ FValue.flat (l.drop (k + 1))) := by
  have e : FValue.flat (l.take k ++ l.drop k) = FValue.flat (l.take k) ++ FValue.flat (l.drop k) := List.flatMap_append
  rw [List.take_append_drop] at e
  rw [e, FValue.flat_at l k x h]
  have e2 : FValue.flat (x :: l.drop (k + 1)) = x.c ++ FValue.flat (l.drop (k + 1)) := List.flatMap_cons
  rw [e2]
theorem FValue.cnt_at (l : List FValue) (k : Nat) (x : FValue) (h : l[k]? = some x) : cntL (FValue.flat (l.take k)) + cntL x.c ≤ cntL (FValue.flat l) := by
  rw [FValue.flat_split l k x h, cntL_append, cntL_append]
  omega
theorem FValue.cnt_eq (z0 : Int) (z1 : Int) (z2 : ByteArray) (z3 : Int) (z4 : List FEntry) : cntL (FValue.c ⟨z0, z1, z2, z3, z4⟩) = 4 + cntL (FEntry.flat z4) := by
  rw [FValue.c_eq]
  simp only [cntL, Cel.cnt]
  try omega
def MarkValueS (l : List FValue) : Prop := ∀ (u : Value) (k0 : Int) (F : List Nat) (w : World), 1 ≤ k0 → k0 + (cntL (FValue.flat l) : Int) ≤ 1000000000000000 → F.Nodup → OwnC w (.s 82 5 l.length (FValue.flat l)) F u → Calls Tryz.prog 11 #[u, .int .i64 k0] w fun e w' => e = .returned (.int .i64 (k0 + (cntL (FValue.flat l) : Int))) ∧ OwnC w' (.s 82 5 l.length (mkL (FValue.flat l) k0)) F u ∧ OnlyF F w w'
def HeldValueS (l : List FValue) : Prop := ∀ (u : Value) (k0 : Int) (w : World), 1 ≤ k0 → k0 + (cntL (FValue.flat l) : Int) ≤ 1000000000000000 → RdC w w.heap.size (.s 82 5 l.length (mkL (FValue.flat l) k0)) u → Calls Tryz.prog 12 #[u, .int .i64 k0] w fun e w' => e = .returned (.int .i64 (k0 + (cntL (FValue.flat l) : Int))) ∧ Below w.heap.size w w'
def MkValue : FValue → Prop
  | ⟨z0, z1, z2, z3, z4⟩ => MarkEntryS z4
def HdValue : FValue → Prop
  | ⟨z0, z1, z2, z3, z4⟩ => HeldEntryS z4
mutual
theorem cntb1_Entry : ∀ x : FEntry, cntL x.c ≤ 20 + 20 * x.wt
  | .mk ⟨z0, z1, z2⟩ (.mk z3 z4 z5 z6 z7) => by
    have ih := cntb_EntryS z7
    rw [FEntry.cnt_eq, FEntry.wt_eq]
    have b7 := ih
    omega
theorem cntb_EntryS : ∀ l : List FEntry, cntL (FEntry.flat l) ≤ 20 * (l.length + FEntry.wts l)
  | [] => by simp [cntL]
  | x :: r => by
    have e : FEntry.flat (x :: r) = x.c ++ FEntry.flat r := List.flatMap_cons
    have h1 := cntb1_Entry x
    have h2 := cntb_EntryS r
    rw [e, cntL_append, FEntry.wts, List.length_cons]
    omega
end
theorem cntb1_Value (x : FValue) : cntL x.c ≤ 20 + 20 * x.wt := by
  obtain ⟨z0, z1, z2, z3, z4⟩ := x
  rw [FValue.cnt_eq, FValue.wt_eq]
  have b4 := cntb_EntryS z4
  omega
theorem cntb_ValueS : ∀ l : List FValue, cntL (FValue.flat l) ≤ 20 * (l.length + FValue.wts l)
  | [] => by simp [cntL]
  | x :: r => by
    have e : FValue.flat (x :: r) = x.c ++ FValue.flat r := List.flatMap_cons
    have h1 := cntb1_Value x
    have h2 := cntb_ValueS r
    rw [e, cntL_append, FValue.wts, List.length_cons]
    omega
theorem markEntryS_of (l : List FEntry) (he : ∀ x, x ∈ l → MkEntry x) : MarkEntryS l := by
  intro u k0 F w h1 h2 hF hO
  obtain ⟨A, c, rfl⟩ := hO.form
  have hcap := hO.read.cap
  have hn : l.length ≤ 9223372036854775807 := by unfold maxLen at hcap; omega
  have HO := hid hO
  clear hcap
  by_cases hl0 : l.length = 0
  · obtain rfl : l = [] := List.eq_nil_of_length_eq_zero hl0
    clear hO hl0 he
    go_enter Tryz.func50, Tryz.ntmps50
    go_wp2_with fail
    go_loop [1, 5] (fun kv i => kv = .int .i64 k0 ∧ i = .int .i64 0) (fun _ i => 0)
    case atStart => exact ⟨rfl, rfl⟩
    case round =>
      obtain ⟨rfl, rfl⟩ := hrel
      go_wp2_with fail
      go_ret
      exact ⟨ret_int (by simp [cntL]), by simpa [mkL] using HO.out, OnlyF.refl _ _⟩
  obtain ⟨g, hA, hg⟩ := hO.head (by omega)
  subst hA
  have HE := hid he
  clear he
  have HG := hid hg
  clear hO hg hl0
  go_enter Tryz.func50, Tryz.ntmps50
  go_wp2_with fail
  go_loopw [1, 5] (fun kv i wr => ∃ (k : Nat) (kk : Int), k ≤ l.length ∧ i = .int .i64 k ∧ kv = .int .i64 kk ∧ kk = k0 + (cntL (FEntry.flat (l.take k)) : Int) ∧ OwnC wr (.s 153 8 l.length (mkL (FEntry.flat (l.take k)) k0 ++ FEntry.flat (l.drop k))) F (.slice (some ⟨g, 0, none⟩) l.length c) ∧ OnlyF F w wr) (fun _ i _ => l.length - (intOf i).toNat)
  case atStart => exact ⟨0, k0, Nat.zero_le _, rfl, rfl, by simp [cntL], by simpa [mkL] using HO.out, OnlyF.refl _ _⟩
  case round =>
    obtain ⟨k, kk, hk, rfl, rfl, hkk, hO, hG⟩ := hrel
    have HKK := hid hkk
    have HO1 := hid hO
    have HGG := hid hG
    clear hO hG
    by_cases hlt : k < l.length
    · obtain ⟨x, hx⟩ : ∃ x, l[k]? = some x := ⟨_, List.getElem?_eq_getElem hlt⟩
      have HX := hid hx
      have hca := FEntry.cnt_at l k x hx
      have hD0 : (mkL (FEntry.flat (l.take k)) k0).length = k * 8 := by rw [mkL_len, FEntry.flat_len, List.length_take]; congr 1; omega
      have hO2 := HO1.out
      rw [FEntry.flat_at l k x hx] at hO2
      have hmx := HE.out x (List.mem_of_getElem? hx)
      obtain ⟨⟨z0, z1, z2⟩, ⟨z3, z4, z5, z6, z7⟩⟩ := x
      rw [show FEntry.flat (⟨⟨z0, z1, z2⟩, ⟨z3, z4, z5, z6, z7⟩⟩ :: l.drop (k + 1)) = (FEntry.c ⟨⟨z0, z1, z2⟩, ⟨z3, z4, z5, z6, z7⟩⟩) ++ FEntry.flat (l.drop (k + 1)) from List.flatMap_cons, FEntry.c_eq] at hO2
      rw [FEntry.cnt_eq] at hca
      have M7 : MarkEntryS z7 := hmx
      have HM7 := hid M7
      clear hmx M7
      obtain ⟨D, hDD⟩ : ∃ D, D = mkL (FEntry.flat (l.take k)) k0 := ⟨_, rfl⟩
      rw [← hDD] at hD0 hO2
      obtain ⟨R, hRR⟩ : ∃ R, R = FEntry.flat (l.drop (k + 1)) := ⟨_, rfl⟩
      rw [← hRR] at hO2
      have HD := hid hD0
      have HDD := hid hDD
      have HRR := hid hRR
      have hkp : 1 ≤ kk := by omega
      generalize hCC : cntL (FEntry.flat (l.take k)) = CC at *
      obtain ⟨N7, hN7⟩ : ∃ N : Nat, N = cntL (FEntry.flat z7) := ⟨_, rfl⟩
      rw [← hN7] at hca
      have hkb : kk + ((7 + N7 : Nat) : Int) ≤ 1000000000000000 := by omega
      have HN7 := hid hN7
      have HCC := hid hCC
      clear hx hD0 hDD hRR hkk hca hCC hN7
      obtain ⟨f0, hrow0, hnc0, hln0⟩ := hO2.row
      have hkc : k * 8 + 8 ≤ c * 8 := by have := Nat.mul_le_mul_right 8 (show k + 1 ≤ c by omega); rw [Nat.succ_mul] at this; exact this
      have q0 := hrow0.cell (i := k * 8) (by omega)
      have y0 := hrow0.frozen (k * 8)
      have q1 := hrow0.cell (i := k * 8 + 1) (by omega)
      have y1 := hrow0.frozen (k * 8 + 1)
      have q2 := hrow0.cell (i := k * 8 + 2) (by omega)
      have y2 := hrow0.frozen (k * 8 + 2)
      have q3 := hrow0.cell (i := k * 8 + 3) (by omega)
      have y3 := hrow0.frozen (k * 8 + 3)
      have q4 := hrow0.cell (i := k * 8 + 3 + 1) (by omega)
      have y4 := hrow0.frozen (k * 8 + 3 + 1)
      have q5 := hrow0.cell (i := k * 8 + 3 + 2) (by omega)
      have y5 := hrow0.frozen (k * 8 + 3 + 2)
      have q6 := hrow0.cell (i := k * 8 + 3 + 3) (by omega)
      have y6 := hrow0.frozen (k * 8 + 3 + 3)
      have q7 := hrow0.cell (i := k * 8 + 3 + 4) (by omega)
      have y7 := hrow0.frozen (k * 8 + 3 + 4)
      clear hrow0
      go_wp2_with fail
      clear hkc y0 y1 y2 y3 y4 y5 y6 y7 q0 q1 q2 q3 q4 q5 q6 q7
      have O0_0 := OwnC.setv (D := D) (y := .bool z0) (R := .v (.int .i64 z1) :: .v (.string z2) :: .v (.int .i64 z3) :: .v (.int .i64 z4) :: .v (.string z5) :: .v (.int .i64 z6) :: .s 153 8 z7.length (FEntry.flat z7) :: R) (by simp only [List.append_assoc, List.cons_append, List.nil_append] at hO2 ⊢; exact hO2) hF (.bool ((kk) % 3 == 0)) (k * 8) (by simp [HD.out])
      clear hO2
      have O0_1 := OwnC.setv (D := D ++ [.v (.bool ((kk) % 3 == 0))]) (y := .int .i64 z1) (R := .v (.string z2) :: .v (.int .i64 z3) :: .v (.int .i64 z4) :: .v (.string z5) :: .v (.int .i64 z6) :: .s 153 8 z7.length (FEntry.flat z7) :: R) (by simp only [List.append_assoc, List.cons_append, List.nil_append] at O0_0 ⊢; exact O0_0) hF (.int .i64 (kk + 1)) (k * 8 + 1) (by simp [HD.out])
      clear O0_0
      refine (markText_any _ _ (by omega)).mono ?_
      rintro e w2 ⟨rfl, hb1⟩
      have G1 := hid (OnlyF.of_below (OnlyF.set (OnlyF.set HGG.out (p := ⟨g, k * 8, none⟩) HG.out (.bool ((kk) % 3 == 0))) (p := ⟨g, k * 8 + 1, none⟩) HG.out (.int .i64 (kk + 1))) hb1)
      have P1 := O0_1.below hb1 (Nat.le_refl _)
      clear O0_1 hb1
      obtain ⟨f1, hrow1, hnc1, hln1⟩ := P1.row
      have hkc : k * 8 + 8 ≤ c * 8 := by have := Nat.mul_le_mul_right 8 (show k + 1 ≤ c by omega); rw [Nat.succ_mul] at this; exact this
      have q0 := hrow1.cell (i := k * 8) (by omega)
      have y0 := hrow1.frozen (k * 8)
      have q1 := hrow1.cell (i := k * 8 + 1) (by omega)
      have y1 := hrow1.frozen (k * 8 + 1)
      have q2 := hrow1.cell (i := k * 8 + 2) (by omega)
      have y2 := hrow1.frozen (k * 8 + 2)
      have q3 := hrow1.cell (i := k * 8 + 3) (by omega)
      have y3 := hrow1.frozen (k * 8 + 3)
      have q4 := hrow1.cell (i := k * 8 + 3 + 1) (by omega)
      have y4 := hrow1.frozen (k * 8 + 3 + 1)
      have q5 := hrow1.cell (i := k * 8 + 3 + 2) (by omega)
      have y5 := hrow1.frozen (k * 8 + 3 + 2)
      have q6 := hrow1.cell (i := k * 8 + 3 + 3) (by omega)
      have y6 := hrow1.frozen (k * 8 + 3 + 3)
      have q7 := hrow1.cell (i := k * 8 + 3 + 4) (by omega)
      have y7 := hrow1.frozen (k * 8 + 3 + 4)
      clear hrow1
      go_wp2_with fail
      clear hkc y0 y1 y2 y3 y4 y5 y6 y7 q0 q1 q2 q3 q4 q5 q6 q7
      have O1_2 := OwnC.setv (D := D ++ [.v (.bool ((kk) % 3 == 0)), .v (.int .i64 (kk + 1))]) (y := .string z2) (R := .v (.int .i64 z3) :: .v (.int .i64 z4) :: .v (.string z5) :: .v (.int .i64 z6) :: .s 153 8 z7.length (FEntry.flat z7) :: R) (by simp only [List.append_assoc, List.cons_append, List.nil_append] at P1 ⊢; exact P1) hF (.string (mt (kk + 1 + 1))) (k * 8 + 2) (by simp [HD.out])
      clear P1
      have O1_3 := OwnC.setv (D := D ++ [.v (.bool ((kk) % 3 == 0)), .v (.int .i64 (kk + 1)), .v (.string (mt (kk + 1 + 1)))]) (y := .int .i64 z3) (R := .v (.int .i64 z4) :: .v (.string z5) :: .v (.int .i64 z6) :: .s 153 8 z7.length (FEntry.flat z7) :: R) (by simp only [List.append_assoc, List.cons_append, List.nil_append] at O1_2 ⊢; exact O1_2) hF (.int .i64 (kk + 1 + 1 + 1)) (k * 8 + 3) (by simp [HD.out])
      clear O1_2
      have O1_4 := OwnC.setv (D := D ++ [.v (.bool ((kk) % 3 == 0)), .v (.int .i64 (kk + 1)), .v (.string (mt (kk + 1 + 1))), .v (.int .i64 (kk + 1 + 1 + 1))]) (y := .int .i64 z4) (R := .v (.string z5) :: .v (.int .i64 z6) :: .s 153 8 z7.length (FEntry.flat z7) :: R) (by simp only [List.append_assoc, List.cons_append, List.nil_append] at O1_3 ⊢; exact O1_3) hF (.int .i64 (kk + 1 + 1 + 1 + 1)) (k * 8 + 3 + 1) (by simp [HD.out])
      clear O1_3
      refine (markText_any _ _ (by omega)).mono ?_
      rintro e w3 ⟨rfl, hb2⟩
      have G2 := hid (OnlyF.of_below (OnlyF.set (OnlyF.set (OnlyF.set G1.out (p := ⟨g, k * 8 + 2, none⟩) HG.out (.string (mt (kk + 1 + 1)))) (p := ⟨g, k * 8 + 3, none⟩) HG.out (.int .i64 (kk + 1 + 1 + 1))) (p := ⟨g, k * 8 + 3 + 1, none⟩) HG.out (.int .i64 (kk + 1 + 1 + 1 + 1))) hb2)
      have P2 := O1_4.below hb2 (Nat.le_refl _)
      clear O1_4 hb2
      obtain ⟨f2, hrow2, hnc2, hln2⟩ := P2.row
      have hkc : k * 8 + 8 ≤ c * 8 := by have := Nat.mul_le_mul_right 8 (show k + 1 ≤ c by omega); rw [Nat.succ_mul] at this; exact this
      have q0 := hrow2.cell (i := k * 8) (by omega)
      have y0 := hrow2.frozen (k * 8)
      have q1 := hrow2.cell (i := k * 8 + 1) (by omega)
      have y1 := hrow2.frozen (k * 8 + 1)
      have q2 := hrow2.cell (i := k * 8 + 2) (by omega)
      have y2 := hrow2.frozen (k * 8 + 2)
      have q3 := hrow2.cell (i := k * 8 + 3) (by omega)
      have y3 := hrow2.frozen (k * 8 + 3)
      have q4 := hrow2.cell (i := k * 8 + 3 + 1) (by omega)
      have y4 := hrow2.frozen (k * 8 + 3 + 1)
      have q5 := hrow2.cell (i := k * 8 + 3 + 2) (by omega)
      have y5 := hrow2.frozen (k * 8 + 3 + 2)
      have q6 := hrow2.cell (i := k * 8 + 3 + 3) (by omega)
      have y6 := hrow2.frozen (k * 8 + 3 + 3)
      have q7 := hrow2.cell (i := k * 8 + 3 + 4) (by omega)
      have y7 := hrow2.frozen (k * 8 + 3 + 4)
      clear hrow2
      obtain ⟨g7_, a7, X7, hA7, hgF7, hc7, _, hx7, hsub7, hnd7, hgx7, hback7⟩ := OwnC.at_ (D := D ++ [.v (.bool ((kk) % 3 == 0)), .v (.int .i64 (kk + 1)), .v (.string (mt (kk + 1 + 1))), .v (.int .i64 (kk + 1 + 1 + 1)), .v (.int .i64 (kk + 1 + 1 + 1 + 1)), .v (.string z5), .v (.int .i64 z6)]) (x := .s 153 8 z7.length (FEntry.flat z7)) (R := R) (by simp only [List.append_assoc, List.cons_append, List.nil_append] at P2 ⊢; exact P2) hF
      obtain ⟨A7, c7, rfl⟩ := hx7.form
      simp only [Option.some.injEq, Addr.mk.injEq, and_true] at hA7
      subst hA7
      rw [show (D ++ [.v (.bool ((kk) % 3 == 0)), .v (.int .i64 (kk + 1)), .v (.string (mt (kk + 1 + 1))), .v (.int .i64 (kk + 1 + 1 + 1)), .v (.int .i64 (kk + 1 + 1 + 1 + 1)), .v (.string z5), .v (.int .i64 z6)] : List Cel).length = k * 8 + 3 + 4 from by simp [HD.out]] at hc7
      clear q7
      go_wp2_with fail
      have hcn := hid (show World.cell? ((w3.setCell ⟨g, k * 8 + 3 + 2, none⟩ (.string (mt (kk + 1 + 1 + 1 + 1 + 1)))).setCell ⟨g, k * 8 + 3 + 3, none⟩ (.int .i64 (kk + 1 + 1 + 1 + 1 + 1 + 1))) ⟨g, k * 8 + 3 + 4, none⟩ = some _ from (cell_set_other (by omega) (cell_set_other (by omega) hc7)))
      clear hkc y0 y1 y2 y3 y4 y5 y6 y7 q0 q1 q2 q3 q4 q5 q6 hc7 hx7 hsub7 hnd7 hgx7 hback7 hgF7
      have O2_5 := OwnC.setv (D := D ++ [.v (.bool ((kk) % 3 == 0)), .v (.int .i64 (kk + 1)), .v (.string (mt (kk + 1 + 1))), .v (.int .i64 (kk + 1 + 1 + 1)), .v (.int .i64 (kk + 1 + 1 + 1 + 1))]) (y := .string z5) (R := .v (.int .i64 z6) :: .s 153 8 z7.length (FEntry.flat z7) :: R) (by simp only [List.append_assoc, List.cons_append, List.nil_append] at P2 ⊢; exact P2) hF (.string (mt (kk + 1 + 1 + 1 + 1 + 1))) (k * 8 + 3 + 2) (by simp [HD.out])
      clear P2
      have O2_6 := OwnC.setv (D := D ++ [.v (.bool ((kk) % 3 == 0)), .v (.int .i64 (kk + 1)), .v (.string (mt (kk + 1 + 1))), .v (.int .i64 (kk + 1 + 1 + 1)), .v (.int .i64 (kk + 1 + 1 + 1 + 1)), .v (.string (mt (kk + 1 + 1 + 1 + 1 + 1)))]) (y := .int .i64 z6) (R := .s 153 8 z7.length (FEntry.flat z7) :: R) (by simp only [List.append_assoc, List.cons_append, List.nil_append] at O2_5 ⊢; exact O2_5) hF (.int .i64 (kk + 1 + 1 + 1 + 1 + 1 + 1)) (k * 8 + 3 + 3) (by simp [HD.out])
      clear O2_5
      obtain ⟨g_, b7, X, hA_, hgF, hc_, _, hx_, hsub, hnd, hgx, hback⟩ := OwnC.at_ (D := D ++ [.v (.bool ((kk) % 3 == 0)), .v (.int .i64 (kk + 1)), .v (.string (mt (kk + 1 + 1))), .v (.int .i64 (kk + 1 + 1 + 1)), .v (.int .i64 (kk + 1 + 1 + 1 + 1)), .v (.string (mt (kk + 1 + 1 + 1 + 1 + 1))), .v (.int .i64 (kk + 1 + 1 + 1 + 1 + 1 + 1))]) (x := .s 153 8 z7.length (FEntry.flat z7)) (R := R) (by simp only [List.append_assoc, List.cons_append, List.nil_append] at O2_6 ⊢; exact O2_6) hF
      simp only [Option.some.injEq, Addr.mk.injEq, and_true] at hA_
      subst hA_
      rw [show (D ++ [.v (.bool ((kk) % 3 == 0)), .v (.int .i64 (kk + 1)), .v (.string (mt (kk + 1 + 1))), .v (.int .i64 (kk + 1 + 1 + 1)), .v (.int .i64 (kk + 1 + 1 + 1 + 1)), .v (.string (mt (kk + 1 + 1 + 1 + 1 + 1))), .v (.int .i64 (kk + 1 + 1 + 1 + 1 + 1 + 1))] : List Cel).length = k * 8 + 3 + 4 from by simp [HD.out]] at hc_
      obtain rfl : .slice A7 z7.length c7 = b7 := Option.some.inj (hcn.out.symm.trans hc_)
      obtain ⟨k7_, hnk⟩ : ∃ k : Int, k = kk + 1 + 1 + 1 + 1 + 1 + 1 + 1 + (N7 : Int) := ⟨_, rfl⟩
      have hcall := HM7.out _ (kk + 1 + 1 + 1 + 1 + 1 + 1 + 1) X _ (by omega) (by rw [← HN7.out]; omega) hnd hx_
      rw [← HN7.out, ← hnk] at hcall
      have HNK7 := hid hnk
      have hkp7 : 1 ≤ k7_ := by omega
      have hkb7 : k7_ + ((0 : Nat) : Int) ≤ 1000000000000000 := by omega
      clear hnk hc_ hcn
      refine hcall.mono ?_
      clear hcall
      rintro e w4 ⟨rfl, own, hon⟩
      have P3 := hback w4 _ own (fun b hb hnb => hon.block b (OwnC.lt _ _ _ O2_6 b hb) hnb)
      have G3 := hid (OnlyF.call (OnlyF.set (OnlyF.set G2.out (p := ⟨g, k * 8 + 3 + 2, none⟩) HG.out (.string (mt (kk + 1 + 1 + 1 + 1 + 1)))) (p := ⟨g, k * 8 + 3 + 3, none⟩) HG.out (.int .i64 (kk + 1 + 1 + 1 + 1 + 1 + 1))) hon hsub)
      clear own hon hback hgx hnd hsub hx_ hgF O2_6
      go_wp2_with fail
      go_roundw
      case rel =>
        have hmk : mkL (FEntry.c ⟨⟨z0, z1, z2⟩, ⟨z3, z4, z5, z6, z7⟩⟩) kk = [.v (.bool ((kk) % 3 == 0)), .v (.int .i64 (kk + 1)), .v (.string (mt (kk + 1 + 1))), .v (.int .i64 (kk + 1 + 1 + 1)), .v (.int .i64 (kk + 1 + 1 + 1 + 1)), .v (.string (mt (kk + 1 + 1 + 1 + 1 + 1))), .v (.int .i64 (kk + 1 + 1 + 1 + 1 + 1 + 1)), .s 153 8 z7.length (mkL (FEntry.flat z7) (kk + 1 + 1 + 1 + 1 + 1 + 1 + 1))] := by
          rw [FEntry.c_eq]
          rw [mkL_v (kk + 1) (by omega)]
          rw [mkL_v (kk + 1 + 1) (by omega)]
          rw [mkL_v (kk + 1 + 1 + 1) (by omega)]
          rw [mkL_v (kk + 1 + 1 + 1 + 1) (by omega)]
          rw [mkL_v (kk + 1 + 1 + 1 + 1 + 1) (by omega)]
          rw [mkL_v (kk + 1 + 1 + 1 + 1 + 1 + 1) (by omega)]
          rw [mkL_v (kk + 1 + 1 + 1 + 1 + 1 + 1 + 1) (by omega)]
          rw [mkL_s (k7_) (by rw [← HN7.out]; exact HNK7.out)]
          rw [mkL_nil]
          rfl
        have hcn : cntL (FEntry.flat (l.take (k + 1))) = CC + (7 + N7) := by
          rw [FEntry.flat_take l k _ HX.out, cntL_append, HCC.out, FEntry.cnt_eq]
          rw [← HN7.out]; try omega
        have hall : mkL (FEntry.flat (l.take (k + 1))) k0 = D ++ [.v (.bool ((kk) % 3 == 0)), .v (.int .i64 (kk + 1)), .v (.string (mt (kk + 1 + 1))), .v (.int .i64 (kk + 1 + 1 + 1)), .v (.int .i64 (kk + 1 + 1 + 1 + 1)), .v (.string (mt (kk + 1 + 1 + 1 + 1 + 1))), .v (.int .i64 (kk + 1 + 1 + 1 + 1 + 1 + 1)), .s 153 8 z7.length (mkL (FEntry.flat z7) (kk + 1 + 1 + 1 + 1 + 1 + 1 + 1))] := by
          rw [FEntry.flat_take l k _ HX.out, mkL_append, HCC.out, ← HKK.out, ← HDD.out, hmk]
        refine ⟨k + 1, _, by omega, by go_num, rfl, ?_, ?_, G3.out⟩
        · rw [hcn]
          have := HKK.out
          have := HNK7.out; omega
        · rw [hall, ← HRR.out]
          simp only [List.append_assoc, List.cons_append, List.nil_append] at P3 ⊢
          exact P3
      case measure => simp [intOf]; omega
    · obtain rfl : k = l.length := by omega
      clear hlt
      go_wp2_with fail
      go_ret
      have e := HO1.out
      rw [List.take_length, List.drop_length] at e
      have e2 := HKK.out
      rw [List.take_length] at e2
      exact ⟨ret_int e2, by simpa using e, HGG.out⟩
theorem heldEntryS_of (l : List FEntry) (he : ∀ x, x ∈ l → HdEntry x) : HeldEntryS l := by
  intro u k0 w h1 h2 hR
  obtain ⟨A, c, rfl⟩ := hR.form
  have hcap := hR.cap
  have hn : l.length ≤ 9223372036854775807 := by unfold maxLen at hcap; omega
  have HR := hid hR
  have HE := hid he
  clear he
  clear hR hcap
  go_enter Tryz.func51, Tryz.ntmps51
  go_wp2_with fail
  go_loopw [1, 5] (fun kv i wr => ∃ (k : Nat) (kk : Int), k ≤ l.length ∧ i = .int .i64 k ∧ kv = .int .i64 kk ∧ kk = k0 + (cntL (FEntry.flat (l.take k)) : Int) ∧ Below w.heap.size w wr) (fun _ i _ => l.length - (intOf i).toNat)
  case atStart => exact ⟨0, k0, Nat.zero_le _, rfl, rfl, by simp [cntL], Below.refl _ _⟩
  case round =>
    obtain ⟨k, kk, hk, rfl, rfl, hkk, hb⟩ := hrel
    have HKK := hid hkk
    by_cases hlt : k < l.length
    · obtain ⟨x, hx⟩ : ∃ x, l[k]? = some x := ⟨_, List.getElem?_eq_getElem hlt⟩
      have HX := hid hx
      have hca := FEntry.cnt_at l k x hx
      obtain ⟨bc, offc, rfl, hblc, hcc⟩ := HR.out.cells (by omega)
      have hD0 : (mkL (FEntry.flat (l.take k)) k0).length = k * 8 := by rw [mkL_len, FEntry.flat_len, List.length_take]; congr 1; omega
      have hsp : mkL (FEntry.flat l) k0 = mkL (FEntry.flat (l.take k)) k0 ++ (mkL x.c kk ++ mkL (FEntry.flat (l.drop (k + 1))) (kk + (cntL x.c : Int))) := by
        rw [FEntry.flat_split l k x hx, mkL_append, mkL_append, ← hkk]
      have hmx := HE.out x (List.mem_of_getElem? hx)
      obtain ⟨⟨z0, z1, z2⟩, ⟨z3, z4, z5, z6, z7⟩⟩ := x
      rw [FEntry.cnt_eq] at hca
      have M7 : HeldEntryS z7 := hmx
      have HM7 := hid M7
      clear hmx M7
      obtain ⟨N7, hN7⟩ : ∃ N : Nat, N = cntL (FEntry.flat z7) := ⟨_, rfl⟩
      rw [← hN7] at hca
      obtain ⟨k7_, hnk7⟩ : ∃ k : Int, k = kk + 1 + 1 + 1 + 1 + 1 + 1 + 1 + (N7 : Int) := ⟨_, rfl⟩
      have hmk : mkL (FEntry.c ⟨⟨z0, z1, z2⟩, ⟨z3, z4, z5, z6, z7⟩⟩) kk = [.v (.bool ((kk) % 3 == 0)), .v (.int .i64 (kk + 1)), .v (.string (mt (kk + 1 + 1))), .v (.int .i64 (kk + 1 + 1 + 1)), .v (.int .i64 (kk + 1 + 1 + 1 + 1)), .v (.string (mt (kk + 1 + 1 + 1 + 1 + 1))), .v (.int .i64 (kk + 1 + 1 + 1 + 1 + 1 + 1)), .s 153 8 z7.length (mkL (FEntry.flat z7) (kk + 1 + 1 + 1 + 1 + 1 + 1 + 1))] := by
        rw [FEntry.c_eq]
        rw [mkL_v (kk + 1) (by omega)]
        rw [mkL_v (kk + 1 + 1) (by omega)]
        rw [mkL_v (kk + 1 + 1 + 1) (by omega)]
        rw [mkL_v (kk + 1 + 1 + 1 + 1) (by omega)]
        rw [mkL_v (kk + 1 + 1 + 1 + 1 + 1) (by omega)]
        rw [mkL_v (kk + 1 + 1 + 1 + 1 + 1 + 1) (by omega)]
        rw [mkL_v (kk + 1 + 1 + 1 + 1 + 1 + 1 + 1) (by omega)]
        rw [mkL_s (k7_) (by rw [← hN7]; exact hnk7)]
        rw [mkL_nil]
        rfl
      rw [hmk] at hsp
      obtain ⟨u0, e0, q0⟩ := hcc (k * 8 + 0) _ (by rw [hsp]; exact mid_get hD0 rfl)
      obtain rfl := q0.val
      clear q0
      have c_0 : wr.cell? ⟨bc, offc + k * 8, none⟩ = some (.bool ((kk) % 3 == 0)) := (hb.cell (p := ⟨bc, _, none⟩) hblc).trans (by simpa [Nat.add_assoc] using e0)
      obtain ⟨u1, e1, q1⟩ := hcc (k * 8 + 1) _ (by rw [hsp]; exact mid_get hD0 rfl)
      obtain rfl := q1.val
      clear q1
      have c_1 : wr.cell? ⟨bc, offc + k * 8 + 1, none⟩ = some (.int .i64 (kk + 1)) := (hb.cell (p := ⟨bc, _, none⟩) hblc).trans (by simpa [Nat.add_assoc] using e1)
      obtain ⟨u2, e2, q2⟩ := hcc (k * 8 + 2) _ (by rw [hsp]; exact mid_get hD0 rfl)
      obtain rfl := q2.val
      clear q2
      have c_2 : wr.cell? ⟨bc, offc + k * 8 + 2, none⟩ = some (.string (mt (kk + 1 + 1))) := (hb.cell (p := ⟨bc, _, none⟩) hblc).trans (by simpa [Nat.add_assoc] using e2)
      obtain ⟨u3, e3, q3⟩ := hcc (k * 8 + 3) _ (by rw [hsp]; exact mid_get hD0 rfl)
      obtain rfl := q3.val
      clear q3
      have c_3 : wr.cell? ⟨bc, offc + k * 8 + 3, none⟩ = some (.int .i64 (kk + 1 + 1 + 1)) := (hb.cell (p := ⟨bc, _, none⟩) hblc).trans (by simpa [Nat.add_assoc] using e3)
      obtain ⟨u4, e4, q4⟩ := hcc (k * 8 + 4) _ (by rw [hsp]; exact mid_get hD0 rfl)
      obtain rfl := q4.val
      clear q4
      have c_4 : wr.cell? ⟨bc, offc + k * 8 + 3 + 1, none⟩ = some (.int .i64 (kk + 1 + 1 + 1 + 1)) := (hb.cell (p := ⟨bc, _, none⟩) hblc).trans (by simpa [Nat.add_assoc] using e4)
      obtain ⟨u5, e5, q5⟩ := hcc (k * 8 + 5) _ (by rw [hsp]; exact mid_get hD0 rfl)
      obtain rfl := q5.val
      clear q5
      have c_5 : wr.cell? ⟨bc, offc + k * 8 + 3 + 2, none⟩ = some (.string (mt (kk + 1 + 1 + 1 + 1 + 1))) := (hb.cell (p := ⟨bc, _, none⟩) hblc).trans (by simpa [Nat.add_assoc] using e5)
      obtain ⟨u6, e6, q6⟩ := hcc (k * 8 + 6) _ (by rw [hsp]; exact mid_get hD0 rfl)
      obtain rfl := q6.val
      clear q6
      have c_6 : wr.cell? ⟨bc, offc + k * 8 + 3 + 3, none⟩ = some (.int .i64 (kk + 1 + 1 + 1 + 1 + 1 + 1)) := (hb.cell (p := ⟨bc, _, none⟩) hblc).trans (by simpa [Nat.add_assoc] using e6)
      obtain ⟨u7, e7, q7⟩ := hcc (k * 8 + 7) _ (by rw [hsp]; exact mid_get hD0 rfl)
      obtain ⟨A7, c7, rfl⟩ := q7.form
      have Q7 := hid q7
      clear q7
      have c_7 : wr.cell? ⟨bc, offc + k * 8 + 3 + 4, none⟩ = some (.slice A7 z7.length c7) := (hb.cell (p := ⟨bc, _, none⟩) hblc).trans (by simpa [Nat.add_assoc] using e7)
      have hkp : 1 ≤ kk := by omega
      have hkp7 : 1 ≤ k7_ := by omega
      have hkb : kk + ((7 + N7 : Nat) : Int) ≤ 1000000000000000 := by omega
      have hkb7 : k7_ + ((0 : Nat) : Int) ≤ 1000000000000000 := by omega
      have hnn7 : 0 ≤ k7_ := by omega
      have HNK7 := hid hnk7
      have HN7 := hid hN7
      clear hcc hsp hD0 hmk hx hca hkk e0 e1 e2 e3 e4 e5 e6 e7 hnk7 hN7
      have hzb := hb.size
      go_wp2_with fail
      go_region_held3 (fun w_ => w_.cell? ⟨bc, offc + k * 8 + 2, none⟩ = some (.string (mt (kk + 1 + 1)))) (first | exact c_2 | exact ((bcell hc1).1 _ _ (by simp; omega)).trans c_2) ((first | (go_at_call 49; refine (markText_any _ _ (by omega)).mono ?_; rintro e w2 ⟨rfl, hc1⟩)))
      have B1 : Below w.heap.size w w2 := hb.trans (((Below.refl _ _).drew : Below w.heap.size wr wr.drew).trans (hc1.mono (by simp; omega)))
      have d1_3 := ((bcell hc1).1 bc (offc + k * 8 + 3) (by simp; omega)).trans c_3
      have d1_4 := ((bcell hc1).1 bc (offc + k * 8 + 3 + 1) (by simp; omega)).trans c_4
      have d1_5 := ((bcell hc1).1 bc (offc + k * 8 + 3 + 2) (by simp; omega)).trans c_5
      have d1_6 := ((bcell hc1).1 bc (offc + k * 8 + 3 + 3) (by simp; omega)).trans c_6
      have d1_7 := ((bcell hc1).1 bc (offc + k * 8 + 3 + 4) (by simp; omega)).trans c_7
      have hz1 := hc1.size
      simp at hz1
      have hy1 : w.heap.size ≤ w2.heap.size := B1.size
      clear hc1
      go_wp2_with fail
      go_region_held3 (fun w_ => w_.cell? ⟨bc, offc + k * 8 + 3 + 2, none⟩ = some (.string (mt (kk + 1 + 1 + 1 + 1 + 1)))) (first | exact d1_5 | exact ((bcell hc2).1 _ _ (by simp; omega)).trans d1_5) ((first | (go_at_call 49; refine (markText_any _ _ (by omega)).mono ?_; rintro e w3 ⟨rfl, hc2⟩)))
      have B2 : Below w.heap.size w w3 := B1.trans (((Below.refl _ _).drew : Below w.heap.size w2 w2.drew).trans (hc2.mono (by simp; omega)))
      have d2_6 := ((bcell hc2).1 bc (offc + k * 8 + 3 + 3) (by simp; omega)).trans d1_6
      have d2_7 := ((bcell hc2).1 bc (offc + k * 8 + 3 + 4) (by simp; omega)).trans d1_7
      have hz2 := hc2.size
      simp at hz2
      have hy2 : w.heap.size ≤ w3.heap.size := B2.size
      clear hc2
      go_wp2_with fail
      refine calls_worldD _ (fun X => X.cell? ⟨bc, offc + k * 8 + 3 + 4, none⟩ = some (.slice A7 z7.length c7) ∧ Below w.heap.size w X) ⟨by first | exact d2_7 | (simp; exact d2_7), by first | exact B2 | exact B2.drew⟩ ?_
      rintro Z3 ⟨m3_7, BZ3⟩
      have hy3_ : w.heap.size ≤ Z3.heap.size := BZ3.size
      have hcall := HM7.out _ (kk + 1 + 1 + 1 + 1 + 1 + 1 + 1) Z3 (by omega) (by rw [← HN7.out]; omega) (Q7.out.on BZ3 (Nat.le_refl _) BZ3.size)
      rw [← HN7.out, ← HNK7.out] at hcall
      refine hcall.mono ?_
      clear hcall
      rintro e w4 ⟨rfl, hc3⟩
      have B3 : Below w.heap.size w w4 := BZ3.trans (hc3.mono (by omega))
      have hy3 : w.heap.size ≤ w4.heap.size := B3.size
      clear hc3 m3_7
      go_wp2_with fail
      go_roundw
      case rel =>
        have hcn : cntL (FEntry.flat (l.take (k + 1))) = cntL (FEntry.flat (l.take k)) + (7 + N7) := by
          rw [FEntry.flat_take l k _ HX.out, cntL_append, FEntry.cnt_eq]
          rw [← HN7.out]; try omega
        refine ⟨k + 1, _, by omega, by go_num, rfl, ?_, B3⟩
        rw [hcn]
        have := HKK.out
        have := HNK7.out; omega
      case measure => simp [intOf]; omega
    · obtain rfl : k = l.length := by omega
      clear hlt
      go_wp2_with fail
      go_ret
      have e2 := HKK.out
      rw [List.take_length] at e2
      exact ⟨ret_int e2, hb⟩
theorem markValueS_of (l : List FValue) (he : ∀ x, x ∈ l → MkValue x) : MarkValueS l := by
  intro u k0 F w h1 h2 hF hO
  obtain ⟨A, c, rfl⟩ := hO.form
  have hcap := hO.read.cap
  have hn : l.length ≤ 9223372036854775807 := by unfold maxLen at hcap; omega
  have HO := hid hO
  clear hcap
  by_cases hl0 : l.length = 0
  · obtain rfl : l = [] := List.eq_nil_of_length_eq_zero hl0
    clear hO hl0 he
    go_enter Tryz.func11, Tryz.ntmps11
    go_wp2_with fail
    go_loop [1, 5] (fun kv i => kv = .int .i64 k0 ∧ i = .int .i64 0) (fun _ i => 0)
    case atStart => exact ⟨rfl, rfl⟩
    case round =>
      obtain ⟨rfl, rfl⟩ := hrel
      go_wp2_with fail
      go_ret
      exact ⟨ret_int (by simp [cntL]), by simpa [mkL] using HO.out, OnlyF.refl _ _⟩
  obtain ⟨g, hA, hg⟩ := hO.head (by omega)
  subst hA
  have HE := hid he
  clear he
  have HG := hid hg
  clear hO hg hl0
  go_enter Tryz.func11, Tryz.ntmps11
  go_wp2_with fail
  go_loopw [1, 5] (fun kv i wr => ∃ (k : Nat) (kk : Int), k ≤ l.length ∧ i = .int .i64 k ∧ kv = .int .i64 kk ∧ kk = k0 + (cntL (FValue.flat (l.take k)) : Int) ∧ OwnC wr (.s 82 5 l.length (mkL (FValue.flat (l.take k)) k0 ++ FValue.flat (l.drop k))) F (.slice (some ⟨g, 0, none⟩) l.length c) ∧ OnlyF F w wr) (fun _ i _ => l.length - (intOf i).toNat)
  case atStart => exact ⟨0, k0, Nat.zero_le _, rfl, rfl, by simp [cntL], by simpa [mkL] using HO.out, OnlyF.refl _ _⟩
  case round =>
    obtain ⟨k, kk, hk, rfl, rfl, hkk, hO, hG⟩ := hrel
    have HKK := hid hkk
    have HO1 := hid hO
    have HGG := hid hG
    clear hO hG
    by_cases hlt : k < l.length
    · obtain ⟨x, hx⟩ : ∃ x, l[k]? = some x := ⟨_, List.getElem?_eq_getElem hlt⟩
      have HX := hid hx
      have hca := FValue.cnt_at l k x hx
      have hD0 : (mkL (FValue.flat (l.take k)) k0).length = k * 5 := by rw [mkL_len, FValue.flat_len, List.length_take]; congr 1; omega
      have hO2 := HO1.out
      rw [FValue.flat_at l k x hx] at hO2
      have hmx := HE.out x (List.mem_of_getElem? hx)
      obtain ⟨z0, z1, z2, z3, z4⟩ := x
      rw [show FValue.flat (⟨z0, z1, z2, z3, z4⟩ :: l.drop (k + 1)) = (FValue.c ⟨z0, z1, z2, z3, z4⟩) ++ FValue.flat (l.drop (k + 1)) from List.flatMap_cons, FValue.c_eq] at hO2
      rw [FValue.cnt_eq] at hca
      have M4 : MarkEntryS z4 := hmx
      have HM4 := hid M4
      clear hmx M4
      obtain ⟨D, hDD⟩ : ∃ D, D = mkL (FValue.flat (l.take k)) k0 := ⟨_, rfl⟩
      rw [← hDD] at hD0 hO2
      obtain ⟨R, hRR⟩ : ∃ R, R = FValue.flat (l.drop (k + 1)) := ⟨_, rfl⟩
      rw [← hRR] at hO2
      have HD := hid hD0
      have HDD := hid hDD
      have HRR := hid hRR
      have hkp : 1 ≤ kk := by omega
      generalize hCC : cntL (FValue.flat (l.take k)) = CC at *
      obtain ⟨N4, hN4⟩ : ∃ N : Nat, N = cntL (FEntry.flat z4) := ⟨_, rfl⟩
      rw [← hN4] at hca
      have hkb : kk + ((4 + N4 : Nat) : Int) ≤ 1000000000000000 := by omega
      have HN4 := hid hN4
      have HCC := hid hCC
      clear hx hD0 hDD hRR hkk hca hCC hN4
      obtain ⟨f0, hrow0, hnc0, hln0⟩ := hO2.row
      have hkc : k * 5 + 5 ≤ c * 5 := by have := Nat.mul_le_mul_right 5 (show k + 1 ≤ c by omega); rw [Nat.succ_mul] at this; exact this
      have q0 := hrow0.cell (i := k * 5) (by omega)
      have y0 := hrow0.frozen (k * 5)
      have q1 := hrow0.cell (i := k * 5 + 1) (by omega)
      have y1 := hrow0.frozen (k * 5 + 1)
      have q2 := hrow0.cell (i := k * 5 + 2) (by omega)
      have y2 := hrow0.frozen (k * 5 + 2)
      have q3 := hrow0.cell (i := k * 5 + 3) (by omega)
      have y3 := hrow0.frozen (k * 5 + 3)
      have q4 := hrow0.cell (i := k * 5 + 4) (by omega)
      have y4 := hrow0.frozen (k * 5 + 4)
      clear hrow0
      go_wp2_with fail
      clear hkc y0 y1 y2 y3 y4 q0 q1 q2 q3 q4
      have O0_0 := OwnC.setv (D := D) (y := .int .i64 z0) (R := .v (.int .i64 z1) :: .v (.string z2) :: .v (.int .i64 z3) :: .s 153 8 z4.length (FEntry.flat z4) :: R) (by simp only [List.append_assoc, List.cons_append, List.nil_append] at hO2 ⊢; exact hO2) hF (.int .i64 (kk)) (k * 5) (by simp [HD.out])
      clear hO2
      have O0_1 := OwnC.setv (D := D ++ [.v (.int .i64 (kk))]) (y := .int .i64 z1) (R := .v (.string z2) :: .v (.int .i64 z3) :: .s 153 8 z4.length (FEntry.flat z4) :: R) (by simp only [List.append_assoc, List.cons_append, List.nil_append] at O0_0 ⊢; exact O0_0) hF (.int .i64 (kk + 1)) (k * 5 + 1) (by simp [HD.out])
      clear O0_0
      refine (markText_any _ _ (by omega)).mono ?_
      rintro e w2 ⟨rfl, hb1⟩
      have G1 := hid (OnlyF.of_below (OnlyF.set (OnlyF.set HGG.out (p := ⟨g, k * 5, none⟩) HG.out (.int .i64 (kk))) (p := ⟨g, k * 5 + 1, none⟩) HG.out (.int .i64 (kk + 1))) hb1)
      have P1 := O0_1.below hb1 (Nat.le_refl _)
      clear O0_1 hb1
      obtain ⟨f1, hrow1, hnc1, hln1⟩ := P1.row
      have hkc : k * 5 + 5 ≤ c * 5 := by have := Nat.mul_le_mul_right 5 (show k + 1 ≤ c by omega); rw [Nat.succ_mul] at this; exact this
      have q0 := hrow1.cell (i := k * 5) (by omega)
      have y0 := hrow1.frozen (k * 5)
      have q1 := hrow1.cell (i := k * 5 + 1) (by omega)
      have y1 := hrow1.frozen (k * 5 + 1)
      have q2 := hrow1.cell (i := k * 5 + 2) (by omega)
      have y2 := hrow1.frozen (k * 5 + 2)
      have q3 := hrow1.cell (i := k * 5 + 3) (by omega)
      have y3 := hrow1.frozen (k * 5 + 3)
      have q4 := hrow1.cell (i := k * 5 + 4) (by omega)
      have y4 := hrow1.frozen (k * 5 + 4)
      clear hrow1
      obtain ⟨g4_, a4, X4, hA4, hgF4, hc4, _, hx4, hsub4, hnd4, hgx4, hback4⟩ := OwnC.at_ (D := D ++ [.v (.int .i64 (kk)), .v (.int .i64 (kk + 1)), .v (.string z2), .v (.int .i64 z3)]) (x := .s 153 8 z4.length (FEntry.flat z4)) (R := R) (by simp only [List.append_assoc, List.cons_append, List.nil_append] at P1 ⊢; exact P1) hF
      obtain ⟨A4, c4, rfl⟩ := hx4.form
      simp only [Option.some.injEq, Addr.mk.injEq, and_true] at hA4
      subst hA4
      rw [show (D ++ [.v (.int .i64 (kk)), .v (.int .i64 (kk + 1)), .v (.string z2), .v (.int .i64 z3)] : List Cel).length = k * 5 + 4 from by simp [HD.out]] at hc4
      clear q4
      go_wp2_with fail
      have hcn := hid (show World.cell? ((w2.setCell ⟨g, k * 5 + 2, none⟩ (.string (mt (kk + 1 + 1)))).setCell ⟨g, k * 5 + 3, none⟩ (.int .i64 (kk + 1 + 1 + 1))) ⟨g, k * 5 + 4, none⟩ = some _ from (cell_set_other (by omega) (cell_set_other (by omega) hc4)))
      clear hkc y0 y1 y2 y3 y4 q0 q1 q2 q3 hc4 hx4 hsub4 hnd4 hgx4 hback4 hgF4
      have O1_2 := OwnC.setv (D := D ++ [.v (.int .i64 (kk)), .v (.int .i64 (kk + 1))]) (y := .string z2) (R := .v (.int .i64 z3) :: .s 153 8 z4.length (FEntry.flat z4) :: R) (by simp only [List.append_assoc, List.cons_append, List.nil_append] at P1 ⊢; exact P1) hF (.string (mt (kk + 1 + 1))) (k * 5 + 2) (by simp [HD.out])
      clear P1
      have O1_3 := OwnC.setv (D := D ++ [.v (.int .i64 (kk)), .v (.int .i64 (kk + 1)), .v (.string (mt (kk + 1 + 1)))]) (y := .int .i64 z3) (R := .s 153 8 z4.length (FEntry.flat z4) :: R) (by simp only [List.append_assoc, List.cons_append, List.nil_append] at O1_2 ⊢; exact O1_2) hF (.int .i64 (kk + 1 + 1 + 1)) (k * 5 + 3) (by simp [HD.out])
      clear O1_2
      obtain ⟨g_, b4, X, hA_, hgF, hc_, _, hx_, hsub, hnd, hgx, hback⟩ := OwnC.at_ (D := D ++ [.v (.int .i64 (kk)), .v (.int .i64 (kk + 1)), .v (.string (mt (kk + 1 + 1))), .v (.int .i64 (kk + 1 + 1 + 1))]) (x := .s 153 8 z4.length (FEntry.flat z4)) (R := R) (by simp only [List.append_assoc, List.cons_append, List.nil_append] at O1_3 ⊢; exact O1_3) hF
      simp only [Option.some.injEq, Addr.mk.injEq, and_true] at hA_
      subst hA_
      rw [show (D ++ [.v (.int .i64 (kk)), .v (.int .i64 (kk + 1)), .v (.string (mt (kk + 1 + 1))), .v (.int .i64 (kk + 1 + 1 + 1))] : List Cel).length = k * 5 + 4 from by simp [HD.out]] at hc_
      obtain rfl : .slice A4 z4.length c4 = b4 := Option.some.inj (hcn.out.symm.trans hc_)
      obtain ⟨k4_, hnk⟩ : ∃ k : Int, k = kk + 1 + 1 + 1 + 1 + (N4 : Int) := ⟨_, rfl⟩
      have hcall := HM4.out _ (kk + 1 + 1 + 1 + 1) X _ (by omega) (by rw [← HN4.out]; omega) hnd hx_
      rw [← HN4.out, ← hnk] at hcall
      have HNK4 := hid hnk
      have hkp4 : 1 ≤ k4_ := by omega
      have hkb4 : k4_ + ((0 : Nat) : Int) ≤ 1000000000000000 := by omega
      clear hnk hc_ hcn
      refine hcall.mono ?_
      clear hcall
      rintro e w3 ⟨rfl, own, hon⟩
      have P2 := hback w3 _ own (fun b hb hnb => hon.block b (OwnC.lt _ _ _ O1_3 b hb) hnb)
      have G2 := hid (OnlyF.call (OnlyF.set (OnlyF.set G1.out (p := ⟨g, k * 5 + 2, none⟩) HG.out (.string (mt (kk + 1 + 1)))) (p := ⟨g, k * 5 + 3, none⟩) HG.out (.int .i64 (kk + 1 + 1 + 1))) hon hsub)
      clear own hon hback hgx hnd hsub hx_ hgF O1_3
      go_wp2_with fail
      go_roundw
      case rel =>
        have hmk : mkL (FValue.c ⟨z0, z1, z2, z3, z4⟩) kk = [.v (.int .i64 (kk)), .v (.int .i64 (kk + 1)), .v (.string (mt (kk + 1 + 1))), .v (.int .i64 (kk + 1 + 1 + 1)), .s 153 8 z4.length (mkL (FEntry.flat z4) (kk + 1 + 1 + 1 + 1))] := by
          rw [FValue.c_eq]
          rw [mkL_v (kk + 1) (by omega)]
          rw [mkL_v (kk + 1 + 1) (by omega)]
          rw [mkL_v (kk + 1 + 1 + 1) (by omega)]
          rw [mkL_v (kk + 1 + 1 + 1 + 1) (by omega)]
          rw [mkL_s (k4_) (by rw [← HN4.out]; exact HNK4.out)]
          rw [mkL_nil]
          rfl
        have hcn : cntL (FValue.flat (l.take (k + 1))) = CC + (4 + N4) := by
          rw [FValue.flat_take l k _ HX.out, cntL_append, HCC.out, FValue.cnt_eq]
          rw [← HN4.out]; try omega
        have hall : mkL (FValue.flat (l.take (k + 1))) k0 = D ++ [.v (.int .i64 (kk)), .v (.int .i64 (kk + 1)), .v (.string (mt (kk + 1 + 1))), .v (.int .i64 (kk + 1 + 1 + 1)), .s 153 8 z4.length (mkL (FEntry.flat z4) (kk + 1 + 1 + 1 + 1))] := by
          rw [FValue.flat_take l k _ HX.out, mkL_append, HCC.out, ← HKK.out, ← HDD.out, hmk]
        refine ⟨k + 1, _, by omega, by go_num, rfl, ?_, ?_, G2.out⟩
        · rw [hcn]
          have := HKK.out
          have := HNK4.out; omega
        · rw [hall, ← HRR.out]
          simp only [List.append_assoc, List.cons_append, List.nil_append] at P2 ⊢
          exact P2
      case measure => simp [intOf]; omega
    · obtain rfl : k = l.length := by omega
      clear hlt
      go_wp2_with fail
      go_ret
      have e := HO1.out
      rw [List.take_length, List.drop_length] at e
      have e2 := HKK.out
      rw [List.take_length] at e2
      exact ⟨ret_int e2, by simpa using e, HGG.out⟩
theorem heldValueS_of (l : List FValue) (he : ∀ x, x ∈ l → HdValue x) : HeldValueS l := by
  intro u k0 w h1 h2 hR
  obtain ⟨A, c, rfl⟩ := hR.form
  have hcap := hR.cap
  have hn : l.length ≤ 9223372036854775807 := by unfold maxLen at hcap; omega
  have HR := hid hR
  have HE := hid he
  clear he
  clear hR hcap
  go_enter Tryz.func12, Tryz.ntmps12
  go_wp2_with fail
  go_loopw [1, 5] (fun kv i wr => ∃ (k : Nat) (kk : Int), k ≤ l.length ∧ i = .int .i64 k ∧ kv = .int .i64 kk ∧ kk = k0 + (cntL (FValue.flat (l.take k)) : Int) ∧ Below w.heap.size w wr) (fun _ i _ => l.length - (intOf i).toNat)
  case atStart => exact ⟨0, k0, Nat.zero_le _, rfl, rfl, by simp [cntL], Below.refl _ _⟩
  case round =>
    obtain ⟨k, kk, hk, rfl, rfl, hkk, hb⟩ := hrel
    have HKK := hid hkk
    by_cases hlt : k < l.length
    · obtain ⟨x, hx⟩ : ∃ x, l[k]? = some x := ⟨_, List.getElem?_eq_getElem hlt⟩
      have HX := hid hx
      have hca := FValue.cnt_at l k x hx
      obtain ⟨bc, offc, rfl, hblc, hcc⟩ := HR.out.cells (by omega)
      have hD0 : (mkL (FValue.flat (l.take k)) k0).length = k * 5 := by rw [mkL_len, FValue.flat_len, List.length_take]; congr 1; omega
      have hsp : mkL (FValue.flat l) k0 = mkL (FValue.flat (l.take k)) k0 ++ (mkL x.c kk ++ mkL (FValue.flat (l.drop (k + 1))) (kk + (cntL x.c : Int))) := by
        rw [FValue.flat_split l k x hx, mkL_append, mkL_append, ← hkk]
      have hmx := HE.out x (List.mem_of_getElem? hx)
      obtain ⟨z0, z1, z2, z3, z4⟩ := x
      rw [FValue.cnt_eq] at hca
      have M4 : HeldEntryS z4 := hmx
      have HM4 := hid M4
      clear hmx M4
      obtain ⟨N4, hN4⟩ : ∃ N : Nat, N = cntL (FEntry.flat z4) := ⟨_, rfl⟩
      rw [← hN4] at hca
      obtain ⟨k4_, hnk4⟩ : ∃ k : Int, k = kk + 1 + 1 + 1 + 1 + (N4 : Int) := ⟨_, rfl⟩
      have hmk : mkL (FValue.c ⟨z0, z1, z2, z3, z4⟩) kk = [.v (.int .i64 (kk)), .v (.int .i64 (kk + 1)), .v (.string (mt (kk + 1 + 1))), .v (.int .i64 (kk + 1 + 1 + 1)), .s 153 8 z4.length (mkL (FEntry.flat z4) (kk + 1 + 1 + 1 + 1))] := by
        rw [FValue.c_eq]
        rw [mkL_v (kk + 1) (by omega)]
        rw [mkL_v (kk + 1 + 1) (by omega)]
        rw [mkL_v (kk + 1 + 1 + 1) (by omega)]
        rw [mkL_v (kk + 1 + 1 + 1 + 1) (by omega)]
        rw [mkL_s (k4_) (by rw [← hN4]; exact hnk4)]
        rw [mkL_nil]
        rfl
      rw [hmk] at hsp
      obtain ⟨u0, e0, q0⟩ := hcc (k * 5 + 0) _ (by rw [hsp]; exact mid_get hD0 rfl)
      obtain rfl := q0.val
      clear q0
      have c_0 : wr.cell? ⟨bc, offc + k * 5, none⟩ = some (.int .i64 (kk)) := (hb.cell (p := ⟨bc, _, none⟩) hblc).trans (by simpa [Nat.add_assoc] using e0)
      obtain ⟨u1, e1, q1⟩ := hcc (k * 5 + 1) _ (by rw [hsp]; exact mid_get hD0 rfl)
      obtain rfl := q1.val
      clear q1
      have c_1 : wr.cell? ⟨bc, offc + k * 5 + 1, none⟩ = some (.int .i64 (kk + 1)) := (hb.cell (p := ⟨bc, _, none⟩) hblc).trans (by simpa [Nat.add_assoc] using e1)
      obtain ⟨u2, e2, q2⟩ := hcc (k * 5 + 2) _ (by rw [hsp]; exact mid_get hD0 rfl)
      obtain rfl := q2.val
      clear q2
      have c_2 : wr.cell? ⟨bc, offc + k * 5 + 2, none⟩ = some (.string (mt (kk + 1 + 1))) := (hb.cell (p := ⟨bc, _, none⟩) hblc).trans (by simpa [Nat.add_assoc] using e2)
      obtain ⟨u3, e3, q3⟩ := hcc (k * 5 + 3) _ (by rw [hsp]; exact mid_get hD0 rfl)
      obtain rfl := q3.val
      clear q3
      have c_3 : wr.cell? ⟨bc, offc + k * 5 + 3, none⟩ = some (.int .i64 (kk + 1 + 1 + 1)) := (hb.cell (p := ⟨bc, _, none⟩) hblc).trans (by simpa [Nat.add_assoc] using e3)
      obtain ⟨u4, e4, q4⟩ := hcc (k * 5 + 4) _ (by rw [hsp]; exact mid_get hD0 rfl)
      obtain ⟨A4, c4, rfl⟩ := q4.form
      have Q4 := hid q4
      clear q4
      have c_4 : wr.cell? ⟨bc, offc + k * 5 + 4, none⟩ = some (.slice A4 z4.length c4) := (hb.cell (p := ⟨bc, _, none⟩) hblc).trans (by simpa [Nat.add_assoc] using e4)
      have hkp : 1 ≤ kk := by omega
      have hkp4 : 1 ≤ k4_ := by omega
      have hkb : kk + ((4 + N4 : Nat) : Int) ≤ 1000000000000000 := by omega
      have hkb4 : k4_ + ((0 : Nat) : Int) ≤ 1000000000000000 := by omega
      have hnn4 : 0 ≤ k4_ := by omega
      have HNK4 := hid hnk4
      have HN4 := hid hN4
      clear hcc hsp hD0 hmk hx hca hkk e0 e1 e2 e3 e4 hnk4 hN4
      have hzb := hb.size
      go_wp2_with fail
      go_region_held3 (fun w_ => w_.cell? ⟨bc, offc + k * 5 + 2, none⟩ = some (.string (mt (kk + 1 + 1)))) (first | exact c_2 | exact ((bcell hc1).1 _ _ (by simp; omega)).trans c_2) ((first | (go_at_call 49; refine (markText_any _ _ (by omega)).mono ?_; rintro e w2 ⟨rfl, hc1⟩)))
      have B1 : Below w.heap.size w w2 := hb.trans (((Below.refl _ _).drew : Below w.heap.size wr wr.drew).trans (hc1.mono (by simp; omega)))
      have d1_3 := ((bcell hc1).1 bc (offc + k * 5 + 3) (by simp; omega)).trans c_3
      have d1_4 := ((bcell hc1).1 bc (offc + k * 5 + 4) (by simp; omega)).trans c_4
      have hz1 := hc1.size
      simp at hz1
      have hy1 : w.heap.size ≤ w2.heap.size := B1.size
      clear hc1
      go_wp2_with fail
      refine calls_worldD _ (fun X => X.cell? ⟨bc, offc + k * 5 + 4, none⟩ = some (.slice A4 z4.length c4) ∧ Below w.heap.size w X) ⟨by first | exact d1_4 | (simp; exact d1_4), by first | exact B1 | exact B1.drew⟩ ?_
      rintro Z2 ⟨m2_4, BZ2⟩
      have hy2_ : w.heap.size ≤ Z2.heap.size := BZ2.size
      have hcall := HM4.out _ (kk + 1 + 1 + 1 + 1) Z2 (by omega) (by rw [← HN4.out]; omega) (Q4.out.on BZ2 (Nat.le_refl _) BZ2.size)
      rw [← HN4.out, ← HNK4.out] at hcall
      refine hcall.mono ?_
      clear hcall
      rintro e w3 ⟨rfl, hc2⟩
      have B2 : Below w.heap.size w w3 := BZ2.trans (hc2.mono (by omega))
      have hy2 : w.heap.size ≤ w3.heap.size := B2.size
      clear hc2 m2_4
      go_wp2_with fail
      go_roundw
      case rel =>
        have hcn : cntL (FValue.flat (l.take (k + 1))) = cntL (FValue.flat (l.take k)) + (4 + N4) := by
          rw [FValue.flat_take l k _ HX.out, cntL_append, FValue.cnt_eq]
          rw [← HN4.out]; try omega
        refine ⟨k + 1, _, by omega, by go_num, rfl, ?_, B2⟩
        rw [hcn]
        have := HKK.out
        have := HNK4.out; omega
      case measure => simp [intOf]; omega
    · obtain rfl : k = l.length := by omega
      clear hlt
      go_wp2_with fail
      go_ret
      have e2 := HKK.out
      rw [List.take_length] at e2
      exact ⟨ret_int e2, hb⟩
mutual
theorem MkEntry_any : ∀ x : FEntry, MkEntry x
  | .mk ⟨z0, z1, z2⟩ (.mk z3 z4 z5 z6 z7) => by
    have := MkEntry_all z7
    exact markEntryS_of z7 this
theorem MkEntry_all : ∀ (l : List FEntry) (x : FEntry), x ∈ l → MkEntry x
  | [], x, hx => by cases hx
  | y :: r, x, hx => by
    rcases List.mem_cons.1 hx with e | hx
    · rw [e]
      exact MkEntry_any y
    · exact MkEntry_all r x hx
end
theorem markEntryS_any (l : List FEntry) : MarkEntryS l := markEntryS_of l (MkEntry_all l)
theorem markValueS_any (l : List FValue) : MarkValueS l := markValueS_of l (fun x _ => by
  obtain ⟨z0, z1, z2, z3, z4⟩ := x
  exact markEntryS_any z4)
mutual
theorem HdEntry_any : ∀ x : FEntry, HdEntry x
  | .mk ⟨z0, z1, z2⟩ (.mk z3 z4 z5 z6 z7) => by
    have := HdEntry_all z7
    exact heldEntryS_of z7 this
theorem HdEntry_all : ∀ (l : List FEntry) (x : FEntry), x ∈ l → HdEntry x
  | [], x, hx => by cases hx
  | y :: r, x, hx => by
    rcases List.mem_cons.1 hx with e | hx
    · rw [e]
      exact HdEntry_any y
    · exact HdEntry_all r x hx
end
theorem heldEntryS_any (l : List FEntry) : HeldEntryS l := heldEntryS_of l (HdEntry_all l)
theorem heldValueS_any (l : List FValue) : HeldValueS l := heldValueS_of l (fun x _ => by
  obtain ⟨z0, z1, z2, z3, z4⟩ := x
  exact heldEntryS_any z4)
theorem markValueS_I (l : List FValue) (u : Value) (k0 : Int) (lo hi : Nat) (w : World) (h1 : 1 ≤ k0) (h2 : k0 + (cntL (FValue.flat l) : Int) ≤ 1000000000000000) (h : OwnI w lo hi [.s 82 5 l.length (FValue.flat l)] [u]) :
    Calls Tryz.prog 11 #[u, .int .i64 k0] w fun e w' => e = .returned (.int .i64 (k0 + (cntL (FValue.flat l) : Int))) ∧ OwnI w' lo hi [.s 82 5 l.length (mkL (FValue.flat l) k0)] [u] ∧ Only lo hi w.heap.size w w' := by
  obtain ⟨F, a1, a2, a3⟩ := h
  exact (markValueS_any l u k0 F w h1 h2 a2 a1.unone).mono fun e w' ⟨h3, h4, h5⟩ => ⟨h3, own_interval a2 a3 (OwnL.one h4) h5⟩
theorem FPlace.flat_len (l : List FPlace) : (FPlace.flat l).length = l.length * 2 := by
  induction l with
  | nil => simp
  | cons x r ih =>
    have e : FPlace.flat (x :: r) = x.c ++ FPlace.flat r := List.flatMap_cons
    rw [e, List.length_append, ih, FPlace.len, List.length_cons]
    omega
theorem FPlace.flat_at (l : List FPlace) (k : Nat) (x : FPlace) (h : l[k]? = some x) : l.drop k = x :: l.drop (k + 1) := by
  have hk := (List.getElem?_eq_some_iff.1 h).1
  rw [List.drop_eq_getElem_cons hk, (List.getElem?_eq_some_iff.1 h).2]
theorem FPlace.flat_take (l : List FPlace) (k : Nat) (x : FPlace) (h : l[k]? = some x) : FPlace.flat (l.take (k + 1)) = FPlace.flat (l.take k) ++ x.c := by
  rw [List.take_add_one, h]
  simp [FPlace.flat]
theorem FPlace.flat_split (l : List FPlace) (k : Nat) (x : FPlace) (h : l[k]? = some x) : FPlace.flat l = FPlace.flat (l.take k) ++ (x.c ++ FPlace.flat (l.drop (k + 1))) := by
  have e : FPlace.flat (l.take k ++ l.drop k) = FPlace.flat (l.take k) ++ FPlace.flat (l.drop k) := List.flatMap_append
  rw [List.take_append_drop] at e
  rw [e, FPlace.flat_at l k x h]
  have e2 : FPlace.flat (x :: l.drop (k + 1)) = x.c ++ FPlace.flat (l.drop (k + 1)) := List.flatMap_cons
  rw [e2]
theorem FPlace.cnt_at (l : List FPlace) (k : Nat) (x : FPlace) (h : l[k]? = some x) : cntL (FPlace.flat (l.take k)) + cntL x.c ≤ cntL (FPlace.flat l) := by
  rw [FPlace.flat_split l k x h, cntL_append, cntL_append]
  omega
theorem FPlace.cnt_eq (z0 : ByteArray) (z1 : Int) : cntL (FPlace.c ⟨z0, z1⟩) = 2 := by
  rw [FPlace.c_eq]
  simp only [cntL, Cel.cnt]
  try omega
def MarkPlaceS (l : List FPlace) : Prop := ∀ (u : Value) (k0 : Int) (F : List Nat) (w : World), 1 ≤ k0 → k0 + (cntL (FPlace.flat l) : Int) ≤ 1000000000000000 → F.Nodup → OwnC w (.s 140 2 l.length (FPlace.flat l)) F u → Calls Tryz.prog 42 #[u, .int .i64 k0] w fun e w' => e = .returned (.int .i64 (k0 + (cntL (FPlace.flat l) : Int))) ∧ OwnC w' (.s 140 2 l.length (mkL (FPlace.flat l) k0)) F u ∧ OnlyF F w w'
theorem cntb1_Place (x : FPlace) : cntL x.c ≤ 20 + 20 * x.wt := by
  obtain ⟨z0, z1⟩ := x
  rw [FPlace.cnt_eq, FPlace.wt_eq]
  omega
theorem cntb_PlaceS : ∀ l : List FPlace, cntL (FPlace.flat l) ≤ 20 * (l.length + FPlace.wts l)
  | [] => by simp [cntL]
  | x :: r => by
    have e : FPlace.flat (x :: r) = x.c ++ FPlace.flat r := List.flatMap_cons
    have h1 := cntb1_Place x
    have h2 := cntb_PlaceS r
    rw [e, cntL_append, FPlace.wts, List.length_cons]
    omega
theorem markPlaceS_of (l : List FPlace) : MarkPlaceS l := by
  intro u k0 F w h1 h2 hF hO
  obtain ⟨A, c, rfl⟩ := hO.form
  have hcap := hO.read.cap
  have hn : l.length ≤ 9223372036854775807 := by unfold maxLen at hcap; omega
  have HO := hid hO
  clear hcap
  by_cases hl0 : l.length = 0
  · obtain rfl : l = [] := List.eq_nil_of_length_eq_zero hl0
    clear hO hl0
    go_enter Tryz.func42, Tryz.ntmps42
    go_wp2_with fail
    go_loop [1, 5] (fun kv i => kv = .int .i64 k0 ∧ i = .int .i64 0) (fun _ i => 0)
    case atStart => exact ⟨rfl, rfl⟩
    case round =>
      obtain ⟨rfl, rfl⟩ := hrel
      go_wp2_with fail
      go_ret
      exact ⟨ret_int (by simp [cntL]), by simpa [mkL] using HO.out, OnlyF.refl _ _⟩
  obtain ⟨g, hA, hg⟩ := hO.head (by omega)
  subst hA
  have HG := hid hg
  clear hO hg hl0
  go_enter Tryz.func42, Tryz.ntmps42
  go_wp2_with fail
  go_loopw [1, 5] (fun kv i wr => ∃ (k : Nat) (kk : Int), k ≤ l.length ∧ i = .int .i64 k ∧ kv = .int .i64 kk ∧ kk = k0 + (cntL (FPlace.flat (l.take k)) : Int) ∧ OwnC wr (.s 140 2 l.length (mkL (FPlace.flat (l.take k)) k0 ++ FPlace.flat (l.drop k))) F (.slice (some ⟨g, 0, none⟩) l.length c) ∧ OnlyF F w wr) (fun _ i _ => l.length - (intOf i).toNat)
  case atStart => exact ⟨0, k0, Nat.zero_le _, rfl, rfl, by simp [cntL], by simpa [mkL] using HO.out, OnlyF.refl _ _⟩
  case round =>
    obtain ⟨k, kk, hk, rfl, rfl, hkk, hO, hG⟩ := hrel
    have HKK := hid hkk
    have HO1 := hid hO
    have HGG := hid hG
    clear hO hG
    by_cases hlt : k < l.length
    · obtain ⟨x, hx⟩ : ∃ x, l[k]? = some x := ⟨_, List.getElem?_eq_getElem hlt⟩
      have HX := hid hx
      have hca := FPlace.cnt_at l k x hx
      have hD0 : (mkL (FPlace.flat (l.take k)) k0).length = k * 2 := by rw [mkL_len, FPlace.flat_len, List.length_take]; congr 1; omega
      have hO2 := HO1.out
      rw [FPlace.flat_at l k x hx] at hO2
      obtain ⟨z0, z1⟩ := x
      rw [show FPlace.flat (⟨z0, z1⟩ :: l.drop (k + 1)) = (FPlace.c ⟨z0, z1⟩) ++ FPlace.flat (l.drop (k + 1)) from List.flatMap_cons, FPlace.c_eq] at hO2
      rw [FPlace.cnt_eq] at hca
      obtain ⟨D, hDD⟩ : ∃ D, D = mkL (FPlace.flat (l.take k)) k0 := ⟨_, rfl⟩
      rw [← hDD] at hD0 hO2
      obtain ⟨R, hRR⟩ : ∃ R, R = FPlace.flat (l.drop (k + 1)) := ⟨_, rfl⟩
      rw [← hRR] at hO2
      have HD := hid hD0
      have HDD := hid hDD
      have HRR := hid hRR
      have hkp : 1 ≤ kk := by omega
      generalize hCC : cntL (FPlace.flat (l.take k)) = CC at *
      have hkb : kk + ((2 : Nat) : Int) ≤ 1000000000000000 := by omega
      have HCC := hid hCC
      clear hx hD0 hDD hRR hkk hca hCC 
      obtain ⟨f0, hrow0, hnc0, hln0⟩ := hO2.row
      have hkc : k * 2 + 2 ≤ c * 2 := by have := Nat.mul_le_mul_right 2 (show k + 1 ≤ c by omega); rw [Nat.succ_mul] at this; exact this
      have q0 := hrow0.cell (i := k * 2) (by omega)
      have y0 := hrow0.frozen (k * 2)
      have q1 := hrow0.cell (i := k * 2 + 1) (by omega)
      have y1 := hrow0.frozen (k * 2 + 1)
      clear hrow0
      go_wp2_with fail
      clear hkc y0 y1 q0 q1
      refine (markText_any _ _ (by omega)).mono ?_
      rintro e w2 ⟨rfl, hb1⟩
      have G1 := hid (OnlyF.of_below HGG.out hb1)
      have P1 := hO2.below hb1 (Nat.le_refl _)
      clear hO2 hb1
      obtain ⟨f1, hrow1, hnc1, hln1⟩ := P1.row
      have hkc : k * 2 + 2 ≤ c * 2 := by have := Nat.mul_le_mul_right 2 (show k + 1 ≤ c by omega); rw [Nat.succ_mul] at this; exact this
      have q0 := hrow1.cell (i := k * 2) (by omega)
      have y0 := hrow1.frozen (k * 2)
      have q1 := hrow1.cell (i := k * 2 + 1) (by omega)
      have y1 := hrow1.frozen (k * 2 + 1)
      clear hrow1
      go_wp2_with fail
      clear hkc y0 y1 q0 q1
      have O1_0 := OwnC.setv (D := D) (y := .string z0) (R := .v (.int .i64 z1) :: R) (by simp only [List.append_assoc, List.cons_append, List.nil_append] at P1 ⊢; exact P1) hF (.string (mt (kk))) (k * 2) (by simp [HD.out])
      clear P1
      have O1_1 := OwnC.setv (D := D ++ [.v (.string (mt (kk)))]) (y := .int .i64 z1) (R := R) (by simp only [List.append_assoc, List.cons_append, List.nil_append] at O1_0 ⊢; exact O1_0) hF (.int .i64 (kk + 1)) (k * 2 + 1) (by simp [HD.out])
      clear O1_0
      go_roundw
      case rel =>
        have hmk : mkL (FPlace.c ⟨z0, z1⟩) kk = [.v (.string (mt (kk))), .v (.int .i64 (kk + 1))] := by
          rw [FPlace.c_eq]
          rw [mkL_v (kk + 1) (by omega)]
          rw [mkL_v (kk + 1 + 1) (by omega)]
          rw [mkL_nil]
          rfl
        have hcn : cntL (FPlace.flat (l.take (k + 1))) = CC + (2) := by
          rw [FPlace.flat_take l k _ HX.out, cntL_append, HCC.out, FPlace.cnt_eq]
          try omega
        have hall : mkL (FPlace.flat (l.take (k + 1))) k0 = D ++ [.v (.string (mt (kk))), .v (.int .i64 (kk + 1))] := by
          rw [FPlace.flat_take l k _ HX.out, mkL_append, HCC.out, ← HKK.out, ← HDD.out, hmk]
        refine ⟨k + 1, _, by omega, by go_num, rfl, ?_, ?_, (OnlyF.set (OnlyF.set G1.out (p := ⟨g, k * 2, none⟩) HG.out (.string (mt (kk)))) (p := ⟨g, k * 2 + 1, none⟩) HG.out (.int .i64 (kk + 1)))⟩
        · rw [hcn]
          have := HKK.out
          omega
        · rw [hall, ← HRR.out]
          simp only [List.append_assoc, List.cons_append, List.nil_append] at O1_1 ⊢
          exact O1_1
      case measure => simp [intOf]; omega
    · obtain rfl : k = l.length := by omega
      clear hlt
      go_wp2_with fail
      go_ret
      have e := HO1.out
      rw [List.take_length, List.drop_length] at e
      have e2 := HKK.out
      rw [List.take_length] at e2
      exact ⟨ret_int e2, by simpa using e, HGG.out⟩
theorem markPlaceS_any (l : List FPlace) : MarkPlaceS l := markPlaceS_of l
theorem FSlot.flat_len (l : List FSlot) : (FSlot.flat l).length = l.length * 10 := by
  induction l with
  | nil => simp
  | cons x r ih =>
    have e : FSlot.flat (x :: r) = x.c ++ FSlot.flat r := List.flatMap_cons
    rw [e, List.length_append, ih, FSlot.len, List.length_cons]
    omega
theorem FSlot.flat_at (l : List FSlot) (k : Nat) (x : FSlot) (h : l[k]? = some x) : l.drop k = x :: l.drop (k + 1) := by
  have hk := (List.getElem?_eq_some_iff.1 h).1
  rw [List.drop_eq_getElem_cons hk, (List.getElem?_eq_some_iff.1 h).2]
theorem FSlot.flat_take (l : List FSlot) (k : Nat) (x : FSlot) (h : l[k]? = some x) : FSlot.flat (l.take (k + 1)) = FSlot.flat (l.take k) ++ x.c := by
  rw [List.take_add_one, h]
  simp [FSlot.flat]
theorem FSlot.flat_split (l : List FSlot) (k : Nat) (x : FSlot) (h : l[k]? = some x) : FSlot.flat l = FSlot.flat (l.take k) ++ (x.c ++ FSlot.flat (l.drop (k + 1))) := by
  have e : FSlot.flat (l.take k ++ l.drop k) = FSlot.flat (l.take k) ++ FSlot.flat (l.drop k) := List.flatMap_append
  rw [List.take_append_drop] at e
  rw [e, FSlot.flat_at l k x h]
  have e2 : FSlot.flat (x :: l.drop (k + 1)) = x.c ++ FSlot.flat (l.drop (k + 1)) := List.flatMap_cons
  rw [e2]
theorem FSlot.cnt_at (l : List FSlot) (k : Nat) (x : FSlot) (h : l[k]? = some x) : cntL (FSlot.flat (l.take k)) + cntL x.c ≤ cntL (FSlot.flat l) := by
  rw [FSlot.flat_split l k x h, cntL_append, cntL_append]
  omega
theorem FSlot.cnt_eq (z0 : Bool) (z1 : Int) (z2 : ByteArray) (z3 : Int) (z4 : Int) (z5 : ByteArray) (z6 : Int) (z7 : List FEntry) (z8 : Bool) (z9 : Int) : cntL (FSlot.c ⟨⟨z0, z1, z2⟩, ⟨z3, z4, z5, z6, z7⟩, z8, z9⟩) = 9 + cntL (FEntry.flat z7) := by
  rw [FSlot.c_eq]
  simp only [cntL, Cel.cnt]
  try omega
def MarkSlotS (l : List FSlot) : Prop := ∀ (u : Value) (k0 : Int) (F : List Nat) (w : World), 1 ≤ k0 → k0 + (cntL (FSlot.flat l) : Int) ≤ 1000000000000000 → F.Nodup → OwnC w (.s 255 10 l.length (FSlot.flat l)) F u → Calls Tryz.prog 116 #[u, .int .i64 k0] w fun e w' => e = .returned (.int .i64 (k0 + (cntL (FSlot.flat l) : Int))) ∧ OwnC w' (.s 255 10 l.length (mkL (FSlot.flat l) k0)) F u ∧ OnlyF F w w'
def MkSlot : FSlot → Prop
  | ⟨⟨z0, z1, z2⟩, ⟨z3, z4, z5, z6, z7⟩, z8, z9⟩ => MarkEntryS z7
theorem cntb1_Slot (x : FSlot) : cntL x.c ≤ 20 + 20 * x.wt := by
  obtain ⟨⟨z0, z1, z2⟩, ⟨z3, z4, z5, z6, z7⟩, z8, z9⟩ := x
  rw [FSlot.cnt_eq, FSlot.wt_eq]
  have b7 := cntb_EntryS z7
  omega
theorem cntb_SlotS : ∀ l : List FSlot, cntL (FSlot.flat l) ≤ 20 * (l.length + FSlot.wts l)
  | [] => by simp [cntL]
  | x :: r => by
    have e : FSlot.flat (x :: r) = x.c ++ FSlot.flat r := List.flatMap_cons
    have h1 := cntb1_Slot x
    have h2 := cntb_SlotS r
    rw [e, cntL_append, FSlot.wts, List.length_cons]
    omega
theorem markSlotS_of (l : List FSlot) (he : ∀ x, x ∈ l → MkSlot x) : MarkSlotS l := by
  intro u k0 F w h1 h2 hF hO
  obtain ⟨A, c, rfl⟩ := hO.form
  have hcap := hO.read.cap
  have hn : l.length ≤ 9223372036854775807 := by unfold maxLen at hcap; omega
  have HO := hid hO
  clear hcap
  by_cases hl0 : l.length = 0
  · obtain rfl : l = [] := List.eq_nil_of_length_eq_zero hl0
    clear hO hl0 he
    go_enter Tryz.func116, Tryz.ntmps116
    go_wp2_with fail
    go_loop [1, 5] (fun kv i => kv = .int .i64 k0 ∧ i = .int .i64 0) (fun _ i => 0)
    case atStart => exact ⟨rfl, rfl⟩
    case round =>
      obtain ⟨rfl, rfl⟩ := hrel
      go_wp2_with fail
      go_ret
      exact ⟨ret_int (by simp [cntL]), by simpa [mkL] using HO.out, OnlyF.refl _ _⟩
  obtain ⟨g, hA, hg⟩ := hO.head (by omega)
  subst hA
  have HE := hid he
  clear he
  have HG := hid hg
  clear hO hg hl0
  go_enter Tryz.func116, Tryz.ntmps116
  go_wp2_with fail
  go_loopw [1, 5] (fun kv i wr => ∃ (k : Nat) (kk : Int), k ≤ l.length ∧ i = .int .i64 k ∧ kv = .int .i64 kk ∧ kk = k0 + (cntL (FSlot.flat (l.take k)) : Int) ∧ OwnC wr (.s 255 10 l.length (mkL (FSlot.flat (l.take k)) k0 ++ FSlot.flat (l.drop k))) F (.slice (some ⟨g, 0, none⟩) l.length c) ∧ OnlyF F w wr) (fun _ i _ => l.length - (intOf i).toNat)
  case atStart => exact ⟨0, k0, Nat.zero_le _, rfl, rfl, by simp [cntL], by simpa [mkL] using HO.out, OnlyF.refl _ _⟩
  case round =>
    obtain ⟨k, kk, hk, rfl, rfl, hkk, hO, hG⟩ := hrel
    have HKK := hid hkk
    have HO1 := hid hO
    have HGG := hid hG
    clear hO hG
    by_cases hlt : k < l.length
    · obtain ⟨x, hx⟩ : ∃ x, l[k]? = some x := ⟨_, List.getElem?_eq_getElem hlt⟩
      have HX := hid hx
      have hca := FSlot.cnt_at l k x hx
      have hD0 : (mkL (FSlot.flat (l.take k)) k0).length = k * 10 := by rw [mkL_len, FSlot.flat_len, List.length_take]; congr 1; omega
      have hO2 := HO1.out
      rw [FSlot.flat_at l k x hx] at hO2
      have hmx := HE.out x (List.mem_of_getElem? hx)
      obtain ⟨⟨z0, z1, z2⟩, ⟨z3, z4, z5, z6, z7⟩, z8, z9⟩ := x
      rw [show FSlot.flat (⟨⟨z0, z1, z2⟩, ⟨z3, z4, z5, z6, z7⟩, z8, z9⟩ :: l.drop (k + 1)) = (FSlot.c ⟨⟨z0, z1, z2⟩, ⟨z3, z4, z5, z6, z7⟩, z8, z9⟩) ++ FSlot.flat (l.drop (k + 1)) from List.flatMap_cons, FSlot.c_eq] at hO2
      rw [FSlot.cnt_eq] at hca
      have M7 : MarkEntryS z7 := hmx
      have HM7 := hid M7
      clear hmx M7
      obtain ⟨D, hDD⟩ : ∃ D, D = mkL (FSlot.flat (l.take k)) k0 := ⟨_, rfl⟩
      rw [← hDD] at hD0 hO2
      obtain ⟨R, hRR⟩ : ∃ R, R = FSlot.flat (l.drop (k + 1)) := ⟨_, rfl⟩
      rw [← hRR] at hO2
      have HD := hid hD0
      have HDD := hid hDD
      have HRR := hid hRR
      have hkp : 1 ≤ kk := by omega
      generalize hCC : cntL (FSlot.flat (l.take k)) = CC at *
      obtain ⟨N7, hN7⟩ : ∃ N : Nat, N = cntL (FEntry.flat z7) := ⟨_, rfl⟩
      rw [← hN7] at hca
      have hkb : kk + ((9 + N7 : Nat) : Int) ≤ 1000000000000000 := by omega
      have HN7 := hid hN7
      have HCC := hid hCC
      clear hx hD0 hDD hRR hkk hca hCC hN7
      obtain ⟨f0, hrow0, hnc0, hln0⟩ := hO2.row
      have hkc : k * 10 + 10 ≤ c * 10 := by have := Nat.mul_le_mul_right 10 (show k + 1 ≤ c by omega); rw [Nat.succ_mul] at this; exact this
      have q0 := hrow0.cell (i := k * 10) (by omega)
      have y0 := hrow0.frozen (k * 10)
      have q1 := hrow0.cell (i := k * 10 + 1) (by omega)
      have y1 := hrow0.frozen (k * 10 + 1)
      have q2 := hrow0.cell (i := k * 10 + 2) (by omega)
      have y2 := hrow0.frozen (k * 10 + 2)
      have q3 := hrow0.cell (i := k * 10 + 3) (by omega)
      have y3 := hrow0.frozen (k * 10 + 3)
      have q4 := hrow0.cell (i := k * 10 + 3 + 1) (by omega)
      have y4 := hrow0.frozen (k * 10 + 3 + 1)
      have q5 := hrow0.cell (i := k * 10 + 3 + 2) (by omega)
      have y5 := hrow0.frozen (k * 10 + 3 + 2)
      have q6 := hrow0.cell (i := k * 10 + 3 + 3) (by omega)
      have y6 := hrow0.frozen (k * 10 + 3 + 3)
      have q7 := hrow0.cell (i := k * 10 + 3 + 4) (by omega)
      have y7 := hrow0.frozen (k * 10 + 3 + 4)
      have q8 := hrow0.cell (i := k * 10 + 8) (by omega)
      have y8 := hrow0.frozen (k * 10 + 8)
      have q9 := hrow0.cell (i := k * 10 + 9) (by omega)
      have y9 := hrow0.frozen (k * 10 + 9)
      clear hrow0
      go_wp2_with fail
      clear hkc y0 y1 y2 y3 y4 y5 y6 y7 y8 y9 q0 q1 q2 q3 q4 q5 q6 q7 q8 q9
      have O0_0 := OwnC.setv (D := D) (y := .bool z0) (R := .v (.int .i64 z1) :: .v (.string z2) :: .v (.int .i64 z3) :: .v (.int .i64 z4) :: .v (.string z5) :: .v (.int .i64 z6) :: .s 153 8 z7.length (FEntry.flat z7) :: .v (.bool z8) :: .v (.int .i64 z9) :: R) (by simp only [List.append_assoc, List.cons_append, List.nil_append] at hO2 ⊢; exact hO2) hF (.bool ((kk) % 3 == 0)) (k * 10) (by simp [HD.out])
      clear hO2
      have O0_1 := OwnC.setv (D := D ++ [.v (.bool ((kk) % 3 == 0))]) (y := .int .i64 z1) (R := .v (.string z2) :: .v (.int .i64 z3) :: .v (.int .i64 z4) :: .v (.string z5) :: .v (.int .i64 z6) :: .s 153 8 z7.length (FEntry.flat z7) :: .v (.bool z8) :: .v (.int .i64 z9) :: R) (by simp only [List.append_assoc, List.cons_append, List.nil_append] at O0_0 ⊢; exact O0_0) hF (.int .i64 (kk + 1)) (k * 10 + 1) (by simp [HD.out])
      clear O0_0
      refine (markText_any _ _ (by omega)).mono ?_
      rintro e w2 ⟨rfl, hb1⟩
      have G1 := hid (OnlyF.of_below (OnlyF.set (OnlyF.set HGG.out (p := ⟨g, k * 10, none⟩) HG.out (.bool ((kk) % 3 == 0))) (p := ⟨g, k * 10 + 1, none⟩) HG.out (.int .i64 (kk + 1))) hb1)
      have P1 := O0_1.below hb1 (Nat.le_refl _)
      clear O0_1 hb1
      obtain ⟨f1, hrow1, hnc1, hln1⟩ := P1.row
      have hkc : k * 10 + 10 ≤ c * 10 := by have := Nat.mul_le_mul_right 10 (show k + 1 ≤ c by omega); rw [Nat.succ_mul] at this; exact this
      have q0 := hrow1.cell (i := k * 10) (by omega)
      have y0 := hrow1.frozen (k * 10)
      have q1 := hrow1.cell (i := k * 10 + 1) (by omega)
      have y1 := hrow1.frozen (k * 10 + 1)
      have q2 := hrow1.cell (i := k * 10 + 2) (by omega)
      have y2 := hrow1.frozen (k * 10 + 2)
      have q3 := hrow1.cell (i := k * 10 + 3) (by omega)
      have y3 := hrow1.frozen (k * 10 + 3)
      have q4 := hrow1.cell (i := k * 10 + 3 + 1) (by omega)
      have y4 := hrow1.frozen (k * 10 + 3 + 1)
      have q5 := hrow1.cell (i := k * 10 + 3 + 2) (by omega)
      have y5 := hrow1.frozen (k * 10 + 3 + 2)
      have q6 := hrow1.cell (i := k * 10 + 3 + 3) (by omega)
      have y6 := hrow1.frozen (k * 10 + 3 + 3)
      have q7 := hrow1.cell (i := k * 10 + 3 + 4) (by omega)
      have y7 := hrow1.frozen (k * 10 + 3 + 4)
      have q8 := hrow1.cell (i := k * 10 + 8) (by omega)
      have y8 := hrow1.frozen (k * 10 + 8)
      have q9 := hrow1.cell (i := k * 10 + 9) (by omega)
      have y9 := hrow1.frozen (k * 10 + 9)
      clear hrow1
      go_wp2_with fail
      clear hkc y0 y1 y2 y3 y4 y5 y6 y7 y8 y9 q0 q1 q2 q3 q4 q5 q6 q7 q8 q9
      have O1_2 := OwnC.setv (D := D ++ [.v (.bool ((kk) % 3 == 0)), .v (.int .i64 (kk + 1))]) (y := .string z2) (R := .v (.int .i64 z3) :: .v (.int .i64 z4) :: .v (.string z5) :: .v (.int .i64 z6) :: .s 153 8 z7.length (FEntry.flat z7) :: .v (.bool z8) :: .v (.int .i64 z9) :: R) (by simp only [List.append_assoc, List.cons_append, List.nil_append] at P1 ⊢; exact P1) hF (.string (mt (kk + 1 + 1))) (k * 10 + 2) (by simp [HD.out])
      clear P1
      have O1_3 := OwnC.setv (D := D ++ [.v (.bool ((kk) % 3 == 0)), .v (.int .i64 (kk + 1)), .v (.string (mt (kk + 1 + 1)))]) (y := .int .i64 z3) (R := .v (.int .i64 z4) :: .v (.string z5) :: .v (.int .i64 z6) :: .s 153 8 z7.length (FEntry.flat z7) :: .v (.bool z8) :: .v (.int .i64 z9) :: R) (by simp only [List.append_assoc, List.cons_append, List.nil_append] at O1_2 ⊢; exact O1_2) hF (.int .i64 (kk + 1 + 1 + 1)) (k * 10 + 3) (by simp [HD.out])
      clear O1_2
      have O1_4 := OwnC.setv (D := D ++ [.v (.bool ((kk) % 3 == 0)), .v (.int .i64 (kk + 1)), .v (.string (mt (kk + 1 + 1))), .v (.int .i64 (kk + 1 + 1 + 1))]) (y := .int .i64 z4) (R := .v (.string z5) :: .v (.int .i64 z6) :: .s 153 8 z7.length (FEntry.flat z7) :: .v (.bool z8) :: .v (.int .i64 z9) :: R) (by simp only [List.append_assoc, List.cons_append, List.nil_append] at O1_3 ⊢; exact O1_3) hF (.int .i64 (kk + 1 + 1 + 1 + 1)) (k * 10 + 3 + 1) (by simp [HD.out])
      clear O1_3
      refine (markText_any _ _ (by omega)).mono ?_
      rintro e w3 ⟨rfl, hb2⟩
      have G2 := hid (OnlyF.of_below (OnlyF.set (OnlyF.set (OnlyF.set G1.out (p := ⟨g, k * 10 + 2, none⟩) HG.out (.string (mt (kk + 1 + 1)))) (p := ⟨g, k * 10 + 3, none⟩) HG.out (.int .i64 (kk + 1 + 1 + 1))) (p := ⟨g, k * 10 + 3 + 1, none⟩) HG.out (.int .i64 (kk + 1 + 1 + 1 + 1))) hb2)
      have P2 := O1_4.below hb2 (Nat.le_refl _)
      clear O1_4 hb2
      obtain ⟨f2, hrow2, hnc2, hln2⟩ := P2.row
      have hkc : k * 10 + 10 ≤ c * 10 := by have := Nat.mul_le_mul_right 10 (show k + 1 ≤ c by omega); rw [Nat.succ_mul] at this; exact this
      have q0 := hrow2.cell (i := k * 10) (by omega)
      have y0 := hrow2.frozen (k * 10)
      have q1 := hrow2.cell (i := k * 10 + 1) (by omega)
      have y1 := hrow2.frozen (k * 10 + 1)
      have q2 := hrow2.cell (i := k * 10 + 2) (by omega)
      have y2 := hrow2.frozen (k * 10 + 2)
      have q3 := hrow2.cell (i := k * 10 + 3) (by omega)
      have y3 := hrow2.frozen (k * 10 + 3)
      have q4 := hrow2.cell (i := k * 10 + 3 + 1) (by omega)
      have y4 := hrow2.frozen (k * 10 + 3 + 1)
      have q5 := hrow2.cell (i := k * 10 + 3 + 2) (by omega)
      have y5 := hrow2.frozen (k * 10 + 3 + 2)
      have q6 := hrow2.cell (i := k * 10 + 3 + 3) (by omega)
      have y6 := hrow2.frozen (k * 10 + 3 + 3)
      have q7 := hrow2.cell (i := k * 10 + 3 + 4) (by omega)
      have y7 := hrow2.frozen (k * 10 + 3 + 4)
      have q8 := hrow2.cell (i := k * 10 + 8) (by omega)
      have y8 := hrow2.frozen (k * 10 + 8)
      have q9 := hrow2.cell (i := k * 10 + 9) (by omega)
      have y9 := hrow2.frozen (k * 10 + 9)
      clear hrow2
      obtain ⟨g7_, a7, X7, hA7, hgF7, hc7, _, hx7, hsub7, hnd7, hgx7, hback7⟩ := OwnC.at_ (D := D ++ [.v (.bool ((kk) % 3 == 0)), .v (.int .i64 (kk + 1)), .v (.string (mt (kk + 1 + 1))), .v (.int .i64 (kk + 1 + 1 + 1)), .v (.int .i64 (kk + 1 + 1 + 1 + 1)), .v (.string z5), .v (.int .i64 z6)]) (x := .s 153 8 z7.length (FEntry.flat z7)) (R := .v (.bool z8) :: .v (.int .i64 z9) :: R) (by simp only [List.append_assoc, List.cons_append, List.nil_append] at P2 ⊢; exact P2) hF
      obtain ⟨A7, c7, rfl⟩ := hx7.form
      simp only [Option.some.injEq, Addr.mk.injEq, and_true] at hA7
      subst hA7
      rw [show (D ++ [.v (.bool ((kk) % 3 == 0)), .v (.int .i64 (kk + 1)), .v (.string (mt (kk + 1 + 1))), .v (.int .i64 (kk + 1 + 1 + 1)), .v (.int .i64 (kk + 1 + 1 + 1 + 1)), .v (.string z5), .v (.int .i64 z6)] : List Cel).length = k * 10 + 3 + 4 from by simp [HD.out]] at hc7
      clear q7
      go_wp2_with fail
      have hcn := hid (show World.cell? ((w3.setCell ⟨g, k * 10 + 3 + 2, none⟩ (.string (mt (kk + 1 + 1 + 1 + 1 + 1)))).setCell ⟨g, k * 10 + 3 + 3, none⟩ (.int .i64 (kk + 1 + 1 + 1 + 1 + 1 + 1))) ⟨g, k * 10 + 3 + 4, none⟩ = some _ from (cell_set_other (by omega) (cell_set_other (by omega) hc7)))
      clear hkc y0 y1 y2 y3 y4 y5 y6 y7 y8 y9 q0 q1 q2 q3 q4 q5 q6 q8 q9 hc7 hx7 hsub7 hnd7 hgx7 hback7 hgF7
      have O2_5 := OwnC.setv (D := D ++ [.v (.bool ((kk) % 3 == 0)), .v (.int .i64 (kk + 1)), .v (.string (mt (kk + 1 + 1))), .v (.int .i64 (kk + 1 + 1 + 1)), .v (.int .i64 (kk + 1 + 1 + 1 + 1))]) (y := .string z5) (R := .v (.int .i64 z6) :: .s 153 8 z7.length (FEntry.flat z7) :: .v (.bool z8) :: .v (.int .i64 z9) :: R) (by simp only [List.append_assoc, List.cons_append, List.nil_append] at P2 ⊢; exact P2) hF (.string (mt (kk + 1 + 1 + 1 + 1 + 1))) (k * 10 + 3 + 2) (by simp [HD.out])
      clear P2
      have O2_6 := OwnC.setv (D := D ++ [.v (.bool ((kk) % 3 == 0)), .v (.int .i64 (kk + 1)), .v (.string (mt (kk + 1 + 1))), .v (.int .i64 (kk + 1 + 1 + 1)), .v (.int .i64 (kk + 1 + 1 + 1 + 1)), .v (.string (mt (kk + 1 + 1 + 1 + 1 + 1)))]) (y := .int .i64 z6) (R := .s 153 8 z7.length (FEntry.flat z7) :: .v (.bool z8) :: .v (.int .i64 z9) :: R) (by simp only [List.append_assoc, List.cons_append, List.nil_append] at O2_5 ⊢; exact O2_5) hF (.int .i64 (kk + 1 + 1 + 1 + 1 + 1 + 1)) (k * 10 + 3 + 3) (by simp [HD.out])
      clear O2_5
      obtain ⟨g_, b7, X, hA_, hgF, hc_, _, hx_, hsub, hnd, hgx, hback⟩ := OwnC.at_ (D := D ++ [.v (.bool ((kk) % 3 == 0)), .v (.int .i64 (kk + 1)), .v (.string (mt (kk + 1 + 1))), .v (.int .i64 (kk + 1 + 1 + 1)), .v (.int .i64 (kk + 1 + 1 + 1 + 1)), .v (.string (mt (kk + 1 + 1 + 1 + 1 + 1))), .v (.int .i64 (kk + 1 + 1 + 1 + 1 + 1 + 1))]) (x := .s 153 8 z7.length (FEntry.flat z7)) (R := .v (.bool z8) :: .v (.int .i64 z9) :: R) (by simp only [List.append_assoc, List.cons_append, List.nil_append] at O2_6 ⊢; exact O2_6) hF
      simp only [Option.some.injEq, Addr.mk.injEq, and_true] at hA_
      subst hA_
      rw [show (D ++ [.v (.bool ((kk) % 3 == 0)), .v (.int .i64 (kk + 1)), .v (.string (mt (kk + 1 + 1))), .v (.int .i64 (kk + 1 + 1 + 1)), .v (.int .i64 (kk + 1 + 1 + 1 + 1)), .v (.string (mt (kk + 1 + 1 + 1 + 1 + 1))), .v (.int .i64 (kk + 1 + 1 + 1 + 1 + 1 + 1))] : List Cel).length = k * 10 + 3 + 4 from by simp [HD.out]] at hc_
      obtain rfl : .slice A7 z7.length c7 = b7 := Option.some.inj (hcn.out.symm.trans hc_)
      obtain ⟨k7_, hnk⟩ : ∃ k : Int, k = kk + 1 + 1 + 1 + 1 + 1 + 1 + 1 + (N7 : Int) := ⟨_, rfl⟩
      have hcall := HM7.out _ (kk + 1 + 1 + 1 + 1 + 1 + 1 + 1) X _ (by omega) (by rw [← HN7.out]; omega) hnd hx_
      rw [← HN7.out, ← hnk] at hcall
      have HNK7 := hid hnk
      have hkp7 : 1 ≤ k7_ := by omega
      have hkb7 : k7_ + ((2 : Nat) : Int) ≤ 1000000000000000 := by omega
      clear hnk hc_ hcn
      refine hcall.mono ?_
      clear hcall
      rintro e w4 ⟨rfl, own, hon⟩
      have P3 := hback w4 _ own (fun b hb hnb => hon.block b (OwnC.lt _ _ _ O2_6 b hb) hnb)
      have G3 := hid (OnlyF.call (OnlyF.set (OnlyF.set G2.out (p := ⟨g, k * 10 + 3 + 2, none⟩) HG.out (.string (mt (kk + 1 + 1 + 1 + 1 + 1)))) (p := ⟨g, k * 10 + 3 + 3, none⟩) HG.out (.int .i64 (kk + 1 + 1 + 1 + 1 + 1 + 1))) hon hsub)
      clear own hon hback hgx hnd hsub hx_ hgF O2_6
      obtain ⟨f3, hrow3, hnc3, hln3⟩ := P3.row
      have hkc : k * 10 + 10 ≤ c * 10 := by have := Nat.mul_le_mul_right 10 (show k + 1 ≤ c by omega); rw [Nat.succ_mul] at this; exact this
      have q0 := hrow3.cell (i := k * 10) (by omega)
      have y0 := hrow3.frozen (k * 10)
      have q1 := hrow3.cell (i := k * 10 + 1) (by omega)
      have y1 := hrow3.frozen (k * 10 + 1)
      have q2 := hrow3.cell (i := k * 10 + 2) (by omega)
      have y2 := hrow3.frozen (k * 10 + 2)
      have q3 := hrow3.cell (i := k * 10 + 3) (by omega)
      have y3 := hrow3.frozen (k * 10 + 3)
      have q4 := hrow3.cell (i := k * 10 + 3 + 1) (by omega)
      have y4 := hrow3.frozen (k * 10 + 3 + 1)
      have q5 := hrow3.cell (i := k * 10 + 3 + 2) (by omega)
      have y5 := hrow3.frozen (k * 10 + 3 + 2)
      have q6 := hrow3.cell (i := k * 10 + 3 + 3) (by omega)
      have y6 := hrow3.frozen (k * 10 + 3 + 3)
      have q7 := hrow3.cell (i := k * 10 + 3 + 4) (by omega)
      have y7 := hrow3.frozen (k * 10 + 3 + 4)
      have q8 := hrow3.cell (i := k * 10 + 8) (by omega)
      have y8 := hrow3.frozen (k * 10 + 8)
      have q9 := hrow3.cell (i := k * 10 + 9) (by omega)
      have y9 := hrow3.frozen (k * 10 + 9)
      clear hrow3
      go_wp2_with fail
      clear hkc y0 y1 y2 y3 y4 y5 y6 y7 y8 y9 q0 q1 q2 q3 q4 q5 q6 q7 q8 q9
      have O3_8 := OwnC.setv (D := D ++ [.v (.bool ((kk) % 3 == 0)), .v (.int .i64 (kk + 1)), .v (.string (mt (kk + 1 + 1))), .v (.int .i64 (kk + 1 + 1 + 1)), .v (.int .i64 (kk + 1 + 1 + 1 + 1)), .v (.string (mt (kk + 1 + 1 + 1 + 1 + 1))), .v (.int .i64 (kk + 1 + 1 + 1 + 1 + 1 + 1)), .s 153 8 z7.length (mkL (FEntry.flat z7) (kk + 1 + 1 + 1 + 1 + 1 + 1 + 1))]) (y := .bool z8) (R := .v (.int .i64 z9) :: R) (by simp only [List.append_assoc, List.cons_append, List.nil_append] at P3 ⊢; exact P3) hF (.bool ((k7_) % 3 == 0)) (k * 10 + 8) (by simp [HD.out])
      clear P3
      have O3_9 := OwnC.setv (D := D ++ [.v (.bool ((kk) % 3 == 0)), .v (.int .i64 (kk + 1)), .v (.string (mt (kk + 1 + 1))), .v (.int .i64 (kk + 1 + 1 + 1)), .v (.int .i64 (kk + 1 + 1 + 1 + 1)), .v (.string (mt (kk + 1 + 1 + 1 + 1 + 1))), .v (.int .i64 (kk + 1 + 1 + 1 + 1 + 1 + 1)), .s 153 8 z7.length (mkL (FEntry.flat z7) (kk + 1 + 1 + 1 + 1 + 1 + 1 + 1)), .v (.bool ((k7_) % 3 == 0))]) (y := .int .i64 z9) (R := R) (by simp only [List.append_assoc, List.cons_append, List.nil_append] at O3_8 ⊢; exact O3_8) hF (.int .i64 (k7_ + 1)) (k * 10 + 9) (by simp [HD.out])
      clear O3_8
      go_roundw
      case rel =>
        have hmk : mkL (FSlot.c ⟨⟨z0, z1, z2⟩, ⟨z3, z4, z5, z6, z7⟩, z8, z9⟩) kk = [.v (.bool ((kk) % 3 == 0)), .v (.int .i64 (kk + 1)), .v (.string (mt (kk + 1 + 1))), .v (.int .i64 (kk + 1 + 1 + 1)), .v (.int .i64 (kk + 1 + 1 + 1 + 1)), .v (.string (mt (kk + 1 + 1 + 1 + 1 + 1))), .v (.int .i64 (kk + 1 + 1 + 1 + 1 + 1 + 1)), .s 153 8 z7.length (mkL (FEntry.flat z7) (kk + 1 + 1 + 1 + 1 + 1 + 1 + 1)), .v (.bool ((k7_) % 3 == 0)), .v (.int .i64 (k7_ + 1))] := by
          rw [FSlot.c_eq]
          rw [mkL_v (kk + 1) (by omega)]
          rw [mkL_v (kk + 1 + 1) (by omega)]
          rw [mkL_v (kk + 1 + 1 + 1) (by omega)]
          rw [mkL_v (kk + 1 + 1 + 1 + 1) (by omega)]
          rw [mkL_v (kk + 1 + 1 + 1 + 1 + 1) (by omega)]
          rw [mkL_v (kk + 1 + 1 + 1 + 1 + 1 + 1) (by omega)]
          rw [mkL_v (kk + 1 + 1 + 1 + 1 + 1 + 1 + 1) (by omega)]
          rw [mkL_s (k7_) (by rw [← HN7.out]; exact HNK7.out)]
          rw [mkL_v (k7_ + 1) (by omega)]
          rw [mkL_v (k7_ + 1 + 1) (by omega)]
          rw [mkL_nil]
          rfl
        have hcn : cntL (FSlot.flat (l.take (k + 1))) = CC + (9 + N7) := by
          rw [FSlot.flat_take l k _ HX.out, cntL_append, HCC.out, FSlot.cnt_eq]
          rw [← HN7.out]; try omega
        have hall : mkL (FSlot.flat (l.take (k + 1))) k0 = D ++ [.v (.bool ((kk) % 3 == 0)), .v (.int .i64 (kk + 1)), .v (.string (mt (kk + 1 + 1))), .v (.int .i64 (kk + 1 + 1 + 1)), .v (.int .i64 (kk + 1 + 1 + 1 + 1)), .v (.string (mt (kk + 1 + 1 + 1 + 1 + 1))), .v (.int .i64 (kk + 1 + 1 + 1 + 1 + 1 + 1)), .s 153 8 z7.length (mkL (FEntry.flat z7) (kk + 1 + 1 + 1 + 1 + 1 + 1 + 1)), .v (.bool ((k7_) % 3 == 0)), .v (.int .i64 (k7_ + 1))] := by
          rw [FSlot.flat_take l k _ HX.out, mkL_append, HCC.out, ← HKK.out, ← HDD.out, hmk]
        refine ⟨k + 1, _, by omega, by go_num, rfl, ?_, ?_, (OnlyF.set (OnlyF.set G3.out (p := ⟨g, k * 10 + 8, none⟩) HG.out (.bool ((k7_) % 3 == 0))) (p := ⟨g, k * 10 + 9, none⟩) HG.out (.int .i64 (k7_ + 1)))⟩
        · rw [hcn]
          have := HKK.out
          have := HNK7.out; omega
        · rw [hall, ← HRR.out]
          simp only [List.append_assoc, List.cons_append, List.nil_append] at O3_9 ⊢
          exact O3_9
      case measure => simp [intOf]; omega
    · obtain rfl : k = l.length := by omega
      clear hlt
      go_wp2_with fail
      go_ret
      have e := HO1.out
      rw [List.take_length, List.drop_length] at e
      have e2 := HKK.out
      rw [List.take_length] at e2
      exact ⟨ret_int e2, by simpa using e, HGG.out⟩
theorem markSlotS_any (l : List FSlot) : MarkSlotS l := markSlotS_of l (fun x _ => by
  obtain ⟨⟨z0, z1, z2⟩, ⟨z3, z4, z5, z6, z7⟩, z8, z9⟩ := x
  exact markEntryS_any z7)
theorem FBlock.flat_len (l : List FBlock) : (FBlock.flat l).length = l.length * 6 := by
  induction l with
  | nil => simp
  | cons x r ih =>
    have e : FBlock.flat (x :: r) = x.c ++ FBlock.flat r := List.flatMap_cons
    rw [e, List.length_append, ih, FBlock.len, List.length_cons]
    omega
theorem FBlock.flat_at (l : List FBlock) (k : Nat) (x : FBlock) (h : l[k]? = some x) : l.drop k = x :: l.drop (k + 1) := by
  have hk := (List.getElem?_eq_some_iff.1 h).1
  rw [List.drop_eq_getElem_cons hk, (List.getElem?_eq_some_iff.1 h).2]
theorem FBlock.flat_take (l : List FBlock) (k : Nat) (x : FBlock) (h : l[k]? = some x) : FBlock.flat (l.take (k + 1)) = FBlock.flat (l.take k) ++ x.c := by
  rw [List.take_add_one, h]
  simp [FBlock.flat]
theorem FBlock.flat_split (l : List FBlock) (k : Nat) (x : FBlock) (h : l[k]? = some x) : FBlock.flat l = FBlock.flat (l.take k) ++ (x.c ++ FBlock.flat (l.drop (k + 1))) := by
  have e : FBlock.flat (l.take k ++ l.drop k) = FBlock.flat (l.take k) ++ FBlock.flat (l.drop k) := List.flatMap_append
  rw [List.take_append_drop] at e
  rw [e, FBlock.flat_at l k x h]
  have e2 : FBlock.flat (x :: l.drop (k + 1)) = x.c ++ FBlock.flat (l.drop (k + 1)) := List.flatMap_cons
  rw [e2]
theorem FBlock.cnt_at (l : List FBlock) (k : Nat) (x : FBlock) (h : l[k]? = some x) : cntL (FBlock.flat (l.take k)) + cntL x.c ≤ cntL (FBlock.flat l) := by
  rw [FBlock.flat_split l k x h, cntL_append, cntL_append]
  omega
theorem FBlock.cnt_eq (z0 : Int) (z1 : Bool) (z2 : List FInt) (z3 : List FSlot) (z4 : Int) (z5 : Int) : cntL (FBlock.c ⟨z0, ⟨z1, z2, z3, z4, z5⟩⟩) = 4 + cntL (FInt.flat z2) + cntL (FSlot.flat z3) := by
  rw [FBlock.c_eq]
  simp only [cntL, Cel.cnt]
  try omega
def MarkBlockS (l : List FBlock) : Prop := ∀ (u : Value) (k0 : Int) (F : List Nat) (w : World), 1 ≤ k0 → k0 + (cntL (FBlock.flat l) : Int) ≤ 1000000000000000 → F.Nodup → OwnC w (.s 201 6 l.length (FBlock.flat l)) F u → Calls Tryz.prog 81 #[u, .int .i64 k0] w fun e w' => e = .returned (.int .i64 (k0 + (cntL (FBlock.flat l) : Int))) ∧ OwnC w' (.s 201 6 l.length (mkL (FBlock.flat l) k0)) F u ∧ OnlyF F w w'
def MkBlock : FBlock → Prop
  | ⟨z0, ⟨z1, z2, z3, z4, z5⟩⟩ => MarkIntS z2 ∧ MarkSlotS z3
theorem cntb1_Block (x : FBlock) : cntL x.c ≤ 20 + 20 * x.wt := by
  obtain ⟨z0, ⟨z1, z2, z3, z4, z5⟩⟩ := x
  rw [FBlock.cnt_eq, FBlock.wt_eq]
  have b2 := cntb_IntS z2
  have b3 := cntb_SlotS z3
  omega
theorem cntb_BlockS : ∀ l : List FBlock, cntL (FBlock.flat l) ≤ 20 * (l.length + FBlock.wts l)
  | [] => by simp [cntL]
  | x :: r => by
    have e : FBlock.flat (x :: r) = x.c ++ FBlock.flat r := List.flatMap_cons
    have h1 := cntb1_Block x
    have h2 := cntb_BlockS r
    rw [e, cntL_append, FBlock.wts, List.length_cons]
    omega
theorem markBlockS_of (l : List FBlock) (he : ∀ x, x ∈ l → MkBlock x) : MarkBlockS l := by
  intro u k0 F w h1 h2 hF hO
  obtain ⟨A, c, rfl⟩ := hO.form
  have hcap := hO.read.cap
  have hn : l.length ≤ 9223372036854775807 := by unfold maxLen at hcap; omega
  have HO := hid hO
  clear hcap
  by_cases hl0 : l.length = 0
  · obtain rfl : l = [] := List.eq_nil_of_length_eq_zero hl0
    clear hO hl0 he
    go_enter Tryz.func81, Tryz.ntmps81
    go_wp2_with fail
    go_loop [1, 5] (fun kv i => kv = .int .i64 k0 ∧ i = .int .i64 0) (fun _ i => 0)
    case atStart => exact ⟨rfl, rfl⟩
    case round =>
      obtain ⟨rfl, rfl⟩ := hrel
      go_wp2_with fail
      go_ret
      exact ⟨ret_int (by simp [cntL]), by simpa [mkL] using HO.out, OnlyF.refl _ _⟩
  obtain ⟨g, hA, hg⟩ := hO.head (by omega)
  subst hA
  have HE := hid he
  clear he
  have HG := hid hg
  clear hO hg hl0
  go_enter Tryz.func81, Tryz.ntmps81
  go_wp2_with fail
  go_loopw [1, 5] (fun kv i wr => ∃ (k : Nat) (kk : Int), k ≤ l.length ∧ i = .int .i64 k ∧ kv = .int .i64 kk ∧ kk = k0 + (cntL (FBlock.flat (l.take k)) : Int) ∧ OwnC wr (.s 201 6 l.length (mkL (FBlock.flat (l.take k)) k0 ++ FBlock.flat (l.drop k))) F (.slice (some ⟨g, 0, none⟩) l.length c) ∧ OnlyF F w wr) (fun _ i _ => l.length - (intOf i).toNat)
  case atStart => exact ⟨0, k0, Nat.zero_le _, rfl, rfl, by simp [cntL], by simpa [mkL] using HO.out, OnlyF.refl _ _⟩
  case round =>
    obtain ⟨k, kk, hk, rfl, rfl, hkk, hO, hG⟩ := hrel
    have HKK := hid hkk
    have HO1 := hid hO
    have HGG := hid hG
    clear hO hG
    by_cases hlt : k < l.length
    · obtain ⟨x, hx⟩ : ∃ x, l[k]? = some x := ⟨_, List.getElem?_eq_getElem hlt⟩
      have HX := hid hx
      have hca := FBlock.cnt_at l k x hx
      have hD0 : (mkL (FBlock.flat (l.take k)) k0).length = k * 6 := by rw [mkL_len, FBlock.flat_len, List.length_take]; congr 1; omega
      have hO2 := HO1.out
      rw [FBlock.flat_at l k x hx] at hO2
      have hmx := HE.out x (List.mem_of_getElem? hx)
      obtain ⟨z0, ⟨z1, z2, z3, z4, z5⟩⟩ := x
      rw [show FBlock.flat (⟨z0, ⟨z1, z2, z3, z4, z5⟩⟩ :: l.drop (k + 1)) = (FBlock.c ⟨z0, ⟨z1, z2, z3, z4, z5⟩⟩) ++ FBlock.flat (l.drop (k + 1)) from List.flatMap_cons, FBlock.c_eq] at hO2
      rw [FBlock.cnt_eq] at hca
      have M2 : MarkIntS z2 := hmx.1
      have HM2 := hid M2
      have M3 : MarkSlotS z3 := hmx.2
      have HM3 := hid M3
      clear hmx M2 M3
      obtain ⟨D, hDD⟩ : ∃ D, D = mkL (FBlock.flat (l.take k)) k0 := ⟨_, rfl⟩
      rw [← hDD] at hD0 hO2
      obtain ⟨R, hRR⟩ : ∃ R, R = FBlock.flat (l.drop (k + 1)) := ⟨_, rfl⟩
      rw [← hRR] at hO2
      have HD := hid hD0
      have HDD := hid hDD
      have HRR := hid hRR
      have hkp : 1 ≤ kk := by omega
      generalize hCC : cntL (FBlock.flat (l.take k)) = CC at *
      obtain ⟨N2, hN2⟩ : ∃ N : Nat, N = cntL (FInt.flat z2) := ⟨_, rfl⟩
      rw [← hN2] at hca
      obtain ⟨N3, hN3⟩ : ∃ N : Nat, N = cntL (FSlot.flat z3) := ⟨_, rfl⟩
      rw [← hN3] at hca
      have hkb : kk + ((4 + N2 + N3 : Nat) : Int) ≤ 1000000000000000 := by omega
      have HN2 := hid hN2
      have HN3 := hid hN3
      have HCC := hid hCC
      clear hx hD0 hDD hRR hkk hca hCC hN2 hN3
      obtain ⟨f0, hrow0, hnc0, hln0⟩ := hO2.row
      have hkc : k * 6 + 6 ≤ c * 6 := by have := Nat.mul_le_mul_right 6 (show k + 1 ≤ c by omega); rw [Nat.succ_mul] at this; exact this
      have q0 := hrow0.cell (i := k * 6) (by omega)
      have y0 := hrow0.frozen (k * 6)
      have q1 := hrow0.cell (i := k * 6 + 1) (by omega)
      have y1 := hrow0.frozen (k * 6 + 1)
      have q2 := hrow0.cell (i := k * 6 + 1 + 1) (by omega)
      have y2 := hrow0.frozen (k * 6 + 1 + 1)
      have q3 := hrow0.cell (i := k * 6 + 1 + 2) (by omega)
      have y3 := hrow0.frozen (k * 6 + 1 + 2)
      have q4 := hrow0.cell (i := k * 6 + 1 + 3) (by omega)
      have y4 := hrow0.frozen (k * 6 + 1 + 3)
      have q5 := hrow0.cell (i := k * 6 + 1 + 4) (by omega)
      have y5 := hrow0.frozen (k * 6 + 1 + 4)
      clear hrow0
      obtain ⟨g2_, a2, X2, hA2, hgF2, hc2, _, hx2, hsub2, hnd2, hgx2, hback2⟩ := OwnC.at_ (D := D ++ [.v (.int .i64 z0), .v (.bool z1)]) (x := .s 3 1 z2.length (FInt.flat z2)) (R := .s 255 10 z3.length (FSlot.flat z3) :: .v (.int .i64 z4) :: .v (.int .i64 z5) :: R) (by simp only [List.append_assoc, List.cons_append, List.nil_append] at hO2 ⊢; exact hO2) hF
      obtain ⟨A2, c2, rfl⟩ := hx2.form
      simp only [Option.some.injEq, Addr.mk.injEq, and_true] at hA2
      subst hA2
      rw [show (D ++ [.v (.int .i64 z0), .v (.bool z1)] : List Cel).length = k * 6 + 1 + 1 from by simp [HD.out]] at hc2
      clear q2
      go_wp2_with fail
      have hcn := hid (show World.cell? ((wr.setCell ⟨g, k * 6, none⟩ (.int .i64 (kk))).setCell ⟨g, k * 6 + 1, none⟩ (.bool ((kk + 1) % 3 == 0))) ⟨g, k * 6 + 1 + 1, none⟩ = some _ from (cell_set_other (by omega) (cell_set_other (by omega) hc2)))
      clear hkc y0 y1 y2 y3 y4 y5 q0 q1 q3 q4 q5 hc2 hx2 hsub2 hnd2 hgx2 hback2 hgF2
      have O0_0 := OwnC.setv (D := D) (y := .int .i64 z0) (R := .v (.bool z1) :: .s 3 1 z2.length (FInt.flat z2) :: .s 255 10 z3.length (FSlot.flat z3) :: .v (.int .i64 z4) :: .v (.int .i64 z5) :: R) (by simp only [List.append_assoc, List.cons_append, List.nil_append] at hO2 ⊢; exact hO2) hF (.int .i64 (kk)) (k * 6) (by simp [HD.out])
      clear hO2
      have O0_1 := OwnC.setv (D := D ++ [.v (.int .i64 (kk))]) (y := .bool z1) (R := .s 3 1 z2.length (FInt.flat z2) :: .s 255 10 z3.length (FSlot.flat z3) :: .v (.int .i64 z4) :: .v (.int .i64 z5) :: R) (by simp only [List.append_assoc, List.cons_append, List.nil_append] at O0_0 ⊢; exact O0_0) hF (.bool ((kk + 1) % 3 == 0)) (k * 6 + 1) (by simp [HD.out])
      clear O0_0
      obtain ⟨g_, b2, X, hA_, hgF, hc_, _, hx_, hsub, hnd, hgx, hback⟩ := OwnC.at_ (D := D ++ [.v (.int .i64 (kk)), .v (.bool ((kk + 1) % 3 == 0))]) (x := .s 3 1 z2.length (FInt.flat z2)) (R := .s 255 10 z3.length (FSlot.flat z3) :: .v (.int .i64 z4) :: .v (.int .i64 z5) :: R) (by simp only [List.append_assoc, List.cons_append, List.nil_append] at O0_1 ⊢; exact O0_1) hF
      simp only [Option.some.injEq, Addr.mk.injEq, and_true] at hA_
      subst hA_
      rw [show (D ++ [.v (.int .i64 (kk)), .v (.bool ((kk + 1) % 3 == 0))] : List Cel).length = k * 6 + 1 + 1 from by simp [HD.out]] at hc_
      obtain rfl : .slice A2 z2.length c2 = b2 := Option.some.inj (hcn.out.symm.trans hc_)
      obtain ⟨k2_, hnk⟩ : ∃ k : Int, k = kk + 1 + 1 + (N2 : Int) := ⟨_, rfl⟩
      have hcall := HM2.out _ (kk + 1 + 1) X _ (by omega) (by rw [← HN2.out]; omega) hnd hx_
      rw [← HN2.out, ← hnk] at hcall
      have HNK2 := hid hnk
      have hkp2 : 1 ≤ k2_ := by omega
      have hkb2 : k2_ + ((2 + N3 : Nat) : Int) ≤ 1000000000000000 := by omega
      clear hnk hc_ hcn
      refine hcall.mono ?_
      clear hcall
      rintro e w2 ⟨rfl, own, hon⟩
      have P1 := hback w2 _ own (fun b hb hnb => hon.block b (OwnC.lt _ _ _ O0_1 b hb) hnb)
      have G1 := hid (OnlyF.call (OnlyF.set (OnlyF.set HGG.out (p := ⟨g, k * 6, none⟩) HG.out (.int .i64 (kk))) (p := ⟨g, k * 6 + 1, none⟩) HG.out (.bool ((kk + 1) % 3 == 0))) hon hsub)
      clear own hon hback hgx hnd hsub hx_ hgF O0_1
      obtain ⟨f1, hrow1, hnc1, hln1⟩ := P1.row
      have hkc : k * 6 + 6 ≤ c * 6 := by have := Nat.mul_le_mul_right 6 (show k + 1 ≤ c by omega); rw [Nat.succ_mul] at this; exact this
      have q0 := hrow1.cell (i := k * 6) (by omega)
      have y0 := hrow1.frozen (k * 6)
      have q1 := hrow1.cell (i := k * 6 + 1) (by omega)
      have y1 := hrow1.frozen (k * 6 + 1)
      have q2 := hrow1.cell (i := k * 6 + 1 + 1) (by omega)
      have y2 := hrow1.frozen (k * 6 + 1 + 1)
      have q3 := hrow1.cell (i := k * 6 + 1 + 2) (by omega)
      have y3 := hrow1.frozen (k * 6 + 1 + 2)
      have q4 := hrow1.cell (i := k * 6 + 1 + 3) (by omega)
      have y4 := hrow1.frozen (k * 6 + 1 + 3)
      have q5 := hrow1.cell (i := k * 6 + 1 + 4) (by omega)
      have y5 := hrow1.frozen (k * 6 + 1 + 4)
      clear hrow1
      obtain ⟨g3_, a3, X3, hA3, hgF3, hc3, _, hx3, hsub3, hnd3, hgx3, hback3⟩ := OwnC.at_ (D := D ++ [.v (.int .i64 (kk)), .v (.bool ((kk + 1) % 3 == 0)), .s 3 1 z2.length (mkL (FInt.flat z2) (kk + 1 + 1))]) (x := .s 255 10 z3.length (FSlot.flat z3)) (R := .v (.int .i64 z4) :: .v (.int .i64 z5) :: R) (by simp only [List.append_assoc, List.cons_append, List.nil_append] at P1 ⊢; exact P1) hF
      obtain ⟨A3, c3, rfl⟩ := hx3.form
      simp only [Option.some.injEq, Addr.mk.injEq, and_true] at hA3
      subst hA3
      rw [show (D ++ [.v (.int .i64 (kk)), .v (.bool ((kk + 1) % 3 == 0)), .s 3 1 z2.length (mkL (FInt.flat z2) (kk + 1 + 1))] : List Cel).length = k * 6 + 1 + 2 from by simp [HD.out]] at hc3
      clear q3
      go_wp2_with fail
      have hcn := hid (show World.cell? w2 ⟨g, k * 6 + 1 + 2, none⟩ = some _ from hc3)
      clear hkc y0 y1 y2 y3 y4 y5 q0 q1 q2 q4 q5 hc3 hx3 hsub3 hnd3 hgx3 hback3 hgF3
      obtain ⟨g_, b3, X, hA_, hgF, hc_, _, hx_, hsub, hnd, hgx, hback⟩ := OwnC.at_ (D := D ++ [.v (.int .i64 (kk)), .v (.bool ((kk + 1) % 3 == 0)), .s 3 1 z2.length (mkL (FInt.flat z2) (kk + 1 + 1))]) (x := .s 255 10 z3.length (FSlot.flat z3)) (R := .v (.int .i64 z4) :: .v (.int .i64 z5) :: R) (by simp only [List.append_assoc, List.cons_append, List.nil_append] at P1 ⊢; exact P1) hF
      simp only [Option.some.injEq, Addr.mk.injEq, and_true] at hA_
      subst hA_
      rw [show (D ++ [.v (.int .i64 (kk)), .v (.bool ((kk + 1) % 3 == 0)), .s 3 1 z2.length (mkL (FInt.flat z2) (kk + 1 + 1))] : List Cel).length = k * 6 + 1 + 2 from by simp [HD.out]] at hc_
      obtain rfl : .slice A3 z3.length c3 = b3 := Option.some.inj (hcn.out.symm.trans hc_)
      obtain ⟨k3_, hnk⟩ : ∃ k : Int, k = k2_ + (N3 : Int) := ⟨_, rfl⟩
      have hcall := HM3.out _ (k2_) X _ (by omega) (by rw [← HN3.out]; omega) hnd hx_
      rw [← HN3.out, ← hnk] at hcall
      have HNK3 := hid hnk
      have hkp3 : 1 ≤ k3_ := by omega
      have hkb3 : k3_ + ((2 : Nat) : Int) ≤ 1000000000000000 := by omega
      clear hnk hc_ hcn
      refine hcall.mono ?_
      clear hcall
      rintro e w3 ⟨rfl, own, hon⟩
      have P2 := hback w3 _ own (fun b hb hnb => hon.block b (OwnC.lt _ _ _ P1 b hb) hnb)
      have G2 := hid (OnlyF.call G1.out hon hsub)
      clear own hon hback hgx hnd hsub hx_ hgF P1
      obtain ⟨f2, hrow2, hnc2, hln2⟩ := P2.row
      have hkc : k * 6 + 6 ≤ c * 6 := by have := Nat.mul_le_mul_right 6 (show k + 1 ≤ c by omega); rw [Nat.succ_mul] at this; exact this
      have q0 := hrow2.cell (i := k * 6) (by omega)
      have y0 := hrow2.frozen (k * 6)
      have q1 := hrow2.cell (i := k * 6 + 1) (by omega)
      have y1 := hrow2.frozen (k * 6 + 1)
      have q2 := hrow2.cell (i := k * 6 + 1 + 1) (by omega)
      have y2 := hrow2.frozen (k * 6 + 1 + 1)
      have q3 := hrow2.cell (i := k * 6 + 1 + 2) (by omega)
      have y3 := hrow2.frozen (k * 6 + 1 + 2)
      have q4 := hrow2.cell (i := k * 6 + 1 + 3) (by omega)
      have y4 := hrow2.frozen (k * 6 + 1 + 3)
      have q5 := hrow2.cell (i := k * 6 + 1 + 4) (by omega)
      have y5 := hrow2.frozen (k * 6 + 1 + 4)
      clear hrow2
      go_wp2_with fail
      clear hkc y0 y1 y2 y3 y4 y5 q0 q1 q2 q3 q4 q5
      have O2_4 := OwnC.setv (D := D ++ [.v (.int .i64 (kk)), .v (.bool ((kk + 1) % 3 == 0)), .s 3 1 z2.length (mkL (FInt.flat z2) (kk + 1 + 1)), .s 255 10 z3.length (mkL (FSlot.flat z3) (k2_))]) (y := .int .i64 z4) (R := .v (.int .i64 z5) :: R) (by simp only [List.append_assoc, List.cons_append, List.nil_append] at P2 ⊢; exact P2) hF (.int .i64 (k3_)) (k * 6 + 1 + 3) (by simp [HD.out])
      clear P2
      have O2_5 := OwnC.setv (D := D ++ [.v (.int .i64 (kk)), .v (.bool ((kk + 1) % 3 == 0)), .s 3 1 z2.length (mkL (FInt.flat z2) (kk + 1 + 1)), .s 255 10 z3.length (mkL (FSlot.flat z3) (k2_)), .v (.int .i64 (k3_))]) (y := .int .i64 z5) (R := R) (by simp only [List.append_assoc, List.cons_append, List.nil_append] at O2_4 ⊢; exact O2_4) hF (.int .i64 (k3_ + 1)) (k * 6 + 1 + 4) (by simp [HD.out])
      clear O2_4
      go_roundw
      case rel =>
        have hmk : mkL (FBlock.c ⟨z0, ⟨z1, z2, z3, z4, z5⟩⟩) kk = [.v (.int .i64 (kk)), .v (.bool ((kk + 1) % 3 == 0)), .s 3 1 z2.length (mkL (FInt.flat z2) (kk + 1 + 1)), .s 255 10 z3.length (mkL (FSlot.flat z3) (k2_)), .v (.int .i64 (k3_)), .v (.int .i64 (k3_ + 1))] := by
          rw [FBlock.c_eq]
          rw [mkL_v (kk + 1) (by omega)]
          rw [mkL_v (kk + 1 + 1) (by omega)]
          rw [mkL_s (k2_) (by rw [← HN2.out]; exact HNK2.out)]
          rw [mkL_s (k3_) (by rw [← HN3.out]; exact HNK3.out)]
          rw [mkL_v (k3_ + 1) (by omega)]
          rw [mkL_v (k3_ + 1 + 1) (by omega)]
          rw [mkL_nil]
          rfl
        have hcn : cntL (FBlock.flat (l.take (k + 1))) = CC + (4 + N2 + N3) := by
          rw [FBlock.flat_take l k _ HX.out, cntL_append, HCC.out, FBlock.cnt_eq]
          rw [← HN2.out]; rw [← HN3.out]; try omega
        have hall : mkL (FBlock.flat (l.take (k + 1))) k0 = D ++ [.v (.int .i64 (kk)), .v (.bool ((kk + 1) % 3 == 0)), .s 3 1 z2.length (mkL (FInt.flat z2) (kk + 1 + 1)), .s 255 10 z3.length (mkL (FSlot.flat z3) (k2_)), .v (.int .i64 (k3_)), .v (.int .i64 (k3_ + 1))] := by
          rw [FBlock.flat_take l k _ HX.out, mkL_append, HCC.out, ← HKK.out, ← HDD.out, hmk]
        refine ⟨k + 1, _, by omega, by go_num, rfl, ?_, ?_, (OnlyF.set (OnlyF.set G2.out (p := ⟨g, k * 6 + 1 + 3, none⟩) HG.out (.int .i64 (k3_))) (p := ⟨g, k * 6 + 1 + 4, none⟩) HG.out (.int .i64 (k3_ + 1)))⟩
        · rw [hcn]
          have := HKK.out
          have := HNK2.out; have := HNK3.out; omega
        · rw [hall, ← HRR.out]
          simp only [List.append_assoc, List.cons_append, List.nil_append] at O2_5 ⊢
          exact O2_5
      case measure => simp [intOf]; omega
    · obtain rfl : k = l.length := by omega
      clear hlt
      go_wp2_with fail
      go_ret
      have e := HO1.out
      rw [List.take_length, List.drop_length] at e
      have e2 := HKK.out
      rw [List.take_length] at e2
      exact ⟨ret_int e2, by simpa using e, HGG.out⟩
theorem markBlockS_any (l : List FBlock) : MarkBlockS l := markBlockS_of l (fun x _ => by
  obtain ⟨z0, ⟨z1, z2, z3, z4, z5⟩⟩ := x
  exact ⟨markIntS_any z2, markSlotS_any z3⟩)
def MarkHeap (x : FHeap) : Prop := ∀ (us : List Value) (k0 : Int) (F : List Nat) (w : World), 1 ≤ k0 → k0 + (scnt x.c : Int) ≤ 1000000000000000 → F.Nodup → OwnL w x.c F us → Calls Tryz.prog 43 #[.agg us.toArray, .int .i64 k0] w fun e w' => e = .returned (.int .i64 (k0 + (scnt x.c : Int))) ∧ OwnL w' (smk x.c k0) F us ∧ OnlyF F w w'
theorem markHeap_of (z0 : List FBlock) (h0 : MarkBlockS z0) : MarkHeap ⟨z0⟩ := by
  intro us k0 F w hq1_ hq2_ hF hO
  obtain ⟨N0, hN0⟩ : ∃ N : Nat, N = cntL (FBlock.flat z0) := ⟨_, rfl⟩
  have hsc : scnt (FHeap.c ⟨z0⟩) = N0 := by
    rw [FHeap.c_eq]
    simp only [scnt]
    omega
  rw [hsc] at hq2_ ⊢
  obtain ⟨k0_, hk0⟩ : ∃ k : Int, k = k0 + (N0 : Int) := ⟨_, rfl⟩
  have hsm : smk (FHeap.c ⟨z0⟩) k0 = [.s 201 6 z0.length (mkL (FBlock.flat z0) (k0))] := by
    rw [FHeap.c_eq]
    rw [smk_s k0_ (by rw [← hN0]; exact hk0)]
    rfl
  rw [hsm]
  have hfin : k0 + ((N0 : Nat) : Int) = k0_ := by omega
  rw [hfin]
  rw [FHeap.c_eq] at hO
  have hr := hO.vs
  obtain ⟨A0, c0, us0, rfl, r0, hr_0⟩ := hr.uns
  obtain rfl := hr_0.un0
  clear hsc hsm hr hr_0 r0
  have hp0 : 1 ≤ k0_ := by omega
  have H0 := hid h0
  clear h0
  have hb0 : k0_ + ((0 : Nat) : Int) ≤ 1000000000000000 := by omega
  have HN0 := hid hN0
  have HK0 := hid hk0
  clear hN0 hk0
  clear hfin
  have HO := hid hO
  clear hO
  go_enter Tryz.func43, Tryz.ntmps43
  go_wp2_with fail
  refine calls_worldD _ (fun X => Blk X w.heap.size 43 #[.slice A0 z0.length c0] ∧ OwnL X [.s 201 6 z0.length (FBlock.flat z0)] F [.slice A0 z0.length c0] ∧ OnlyF F w X ∧ w.heap.size < X.heap.size) ⟨Blk.new w _ _, OwnL.keep _ _ _ HO.out fun g hg => Below.heap_alloc _ _ _ (OwnL.lt _ _ _ HO.out g hg), (OnlyF.refl _ _).alloc _, by simp⟩ ?_
  rintro X0 ⟨ba, hO, hG, hs⟩
  obtain ⟨Fm, hm, hsub, hnd, hback⟩ := OwnL.sub (D := []) (M := [.s 201 6 z0.length (FBlock.flat z0)]) (R := []) (u1 := []) (um := [.slice A0 z0.length c0]) (u3 := []) hO hF rfl rfl
  have hcall := H0.out _ (k0) Fm X0 (by omega) (by rw [← HN0.out]; omega) hnd hm.unone
  rw [← HN0.out, ← HK0.out] at hcall
  refine hcall.mono ?_
  clear hcall
  rintro e Y0 ⟨rfl, own, hon⟩
  have hlt := OwnL.lt _ _ _ hO
  have hFl : w.heap.size ∉ F := fun e => by have := OwnL.lt _ _ _ HO.out _ e; omega
  replace hO := hback Y0 [.s 201 6 z0.length (mkL (FBlock.flat z0) (k0))] (OwnL.one own) (fun b hb hnb => hon.block b (hlt b hb) hnb)
  replace ba : Blk Y0 w.heap.size 43 #[.slice A0 z0.length c0] := (hon.block _ ba.lt (fun e => hFl (hsub _ e))).trans ba
  replace hG := OnlyF.call hG hon hsub
  replace hs : w.heap.size < Y0.heap.size := Nat.lt_of_lt_of_le hs hon.size
  clear own hon hm hsub hnd hback hlt hFl
  have ba_l := ba.lt
  go_wp2_with fail
  go_ret
  exact ⟨rfl, hO, hG⟩
theorem markHeap_any (x : FHeap) : MarkHeap x := by
  obtain ⟨z0⟩ := x
  exact markHeap_of z0 (markBlockS_any z0)
theorem FBinding.flat_len (l : List FBinding) : (FBinding.flat l).length = l.length * 6 := by
  induction l with
  | nil => simp
  | cons x r ih =>
    have e : FBinding.flat (x :: r) = x.c ++ FBinding.flat r := List.flatMap_cons
    rw [e, List.length_append, ih, FBinding.len, List.length_cons]
    omega
theorem FBinding.flat_at (l : List FBinding) (k : Nat) (x : FBinding) (h : l[k]? = some x) : l.drop k = x :: l.drop (k + 1) := by
  have hk := (List.getElem?_eq_some_iff.1 h).1
  rw [List.drop_eq_getElem_cons hk, (List.getElem?_eq_some_iff.1 h).2]
theorem FBinding.flat_take (l : List FBinding) (k : Nat) (x : FBinding) (h : l[k]? = some x) : FBinding.flat (l.take (k + 1)) = FBinding.flat (l.take k) ++ x.c := by
  rw [List.take_add_one, h]
  simp [FBinding.flat]
theorem FBinding.flat_split (l : List FBinding) (k : Nat) (x : FBinding) (h : l[k]? = some x) : FBinding.flat l = FBinding.flat (l.take k) ++ (x.c ++ FBinding.flat (l.drop (k + 1))) := by
  have e : FBinding.flat (l.take k ++ l.drop k) = FBinding.flat (l.take k) ++ FBinding.flat (l.drop k) := List.flatMap_append
  rw [List.take_append_drop] at e
  rw [e, FBinding.flat_at l k x h]
  have e2 : FBinding.flat (x :: l.drop (k + 1)) = x.c ++ FBinding.flat (l.drop (k + 1)) := List.flatMap_cons
  rw [e2]
theorem FBinding.cnt_at (l : List FBinding) (k : Nat) (x : FBinding) (h : l[k]? = some x) : cntL (FBinding.flat (l.take k)) + cntL x.c ≤ cntL (FBinding.flat l) := by
  rw [FBinding.flat_split l k x h, cntL_append, cntL_append]
  omega
theorem FBinding.cnt_eq (z0 : ByteArray) (z1 : Int) (z2 : Int) (z3 : ByteArray) (z4 : Int) (z5 : List FEntry) : cntL (FBinding.c ⟨z0, ⟨z1, z2, z3, z4, z5⟩⟩) = 5 + cntL (FEntry.flat z5) := by
  rw [FBinding.c_eq]
  simp only [cntL, Cel.cnt]
  try omega
def MarkBindingS (l : List FBinding) : Prop := ∀ (u : Value) (k0 : Int) (F : List Nat) (w : World), 1 ≤ k0 → k0 + (cntL (FBinding.flat l) : Int) ≤ 1000000000000000 → F.Nodup → OwnC w (.s 84 6 l.length (FBinding.flat l)) F u → Calls Tryz.prog 82 #[u, .int .i64 k0] w fun e w' => e = .returned (.int .i64 (k0 + (cntL (FBinding.flat l) : Int))) ∧ OwnC w' (.s 84 6 l.length (mkL (FBinding.flat l) k0)) F u ∧ OnlyF F w w'
def MkBinding : FBinding → Prop
  | ⟨z0, ⟨z1, z2, z3, z4, z5⟩⟩ => MarkEntryS z5
theorem cntb1_Binding (x : FBinding) : cntL x.c ≤ 20 + 20 * x.wt := by
  obtain ⟨z0, ⟨z1, z2, z3, z4, z5⟩⟩ := x
  rw [FBinding.cnt_eq, FBinding.wt_eq]
  have b5 := cntb_EntryS z5
  omega
theorem cntb_BindingS : ∀ l : List FBinding, cntL (FBinding.flat l) ≤ 20 * (l.length + FBinding.wts l)
  | [] => by simp [cntL]
  | x :: r => by
    have e : FBinding.flat (x :: r) = x.c ++ FBinding.flat r := List.flatMap_cons
    have h1 := cntb1_Binding x
    have h2 := cntb_BindingS r
    rw [e, cntL_append, FBinding.wts, List.length_cons]
    omega
theorem markBindingS_of (l : List FBinding) (he : ∀ x, x ∈ l → MkBinding x) : MarkBindingS l := by
  intro u k0 F w h1 h2 hF hO
  obtain ⟨A, c, rfl⟩ := hO.form
  have hcap := hO.read.cap
  have hn : l.length ≤ 9223372036854775807 := by unfold maxLen at hcap; omega
  have HO := hid hO
  clear hcap
  by_cases hl0 : l.length = 0
  · obtain rfl : l = [] := List.eq_nil_of_length_eq_zero hl0
    clear hO hl0 he
    go_enter Tryz.func82, Tryz.ntmps82
    go_wp2_with fail
    go_loop [1, 5] (fun kv i => kv = .int .i64 k0 ∧ i = .int .i64 0) (fun _ i => 0)
    case atStart => exact ⟨rfl, rfl⟩
    case round =>
      obtain ⟨rfl, rfl⟩ := hrel
      go_wp2_with fail
      go_ret
      exact ⟨ret_int (by simp [cntL]), by simpa [mkL] using HO.out, OnlyF.refl _ _⟩
  obtain ⟨g, hA, hg⟩ := hO.head (by omega)
  subst hA
  have HE := hid he
  clear he
  have HG := hid hg
  clear hO hg hl0
  go_enter Tryz.func82, Tryz.ntmps82
  go_wp2_with fail
  go_loopw [1, 5] (fun kv i wr => ∃ (k : Nat) (kk : Int), k ≤ l.length ∧ i = .int .i64 k ∧ kv = .int .i64 kk ∧ kk = k0 + (cntL (FBinding.flat (l.take k)) : Int) ∧ OwnC wr (.s 84 6 l.length (mkL (FBinding.flat (l.take k)) k0 ++ FBinding.flat (l.drop k))) F (.slice (some ⟨g, 0, none⟩) l.length c) ∧ OnlyF F w wr) (fun _ i _ => l.length - (intOf i).toNat)
  case atStart => exact ⟨0, k0, Nat.zero_le _, rfl, rfl, by simp [cntL], by simpa [mkL] using HO.out, OnlyF.refl _ _⟩
  case round =>
    obtain ⟨k, kk, hk, rfl, rfl, hkk, hO, hG⟩ := hrel
    have HKK := hid hkk
    have HO1 := hid hO
    have HGG := hid hG
    clear hO hG
    by_cases hlt : k < l.length
    · obtain ⟨x, hx⟩ : ∃ x, l[k]? = some x := ⟨_, List.getElem?_eq_getElem hlt⟩
      have HX := hid hx
      have hca := FBinding.cnt_at l k x hx
      have hD0 : (mkL (FBinding.flat (l.take k)) k0).length = k * 6 := by rw [mkL_len, FBinding.flat_len, List.length_take]; congr 1; omega
      have hO2 := HO1.out
      rw [FBinding.flat_at l k x hx] at hO2
      have hmx := HE.out x (List.mem_of_getElem? hx)
      obtain ⟨z0, ⟨z1, z2, z3, z4, z5⟩⟩ := x
      rw [show FBinding.flat (⟨z0, ⟨z1, z2, z3, z4, z5⟩⟩ :: l.drop (k + 1)) = (FBinding.c ⟨z0, ⟨z1, z2, z3, z4, z5⟩⟩) ++ FBinding.flat (l.drop (k + 1)) from List.flatMap_cons, FBinding.c_eq] at hO2
      rw [FBinding.cnt_eq] at hca
      have M5 : MarkEntryS z5 := hmx
      have HM5 := hid M5
      clear hmx M5
      obtain ⟨D, hDD⟩ : ∃ D, D = mkL (FBinding.flat (l.take k)) k0 := ⟨_, rfl⟩
      rw [← hDD] at hD0 hO2
      obtain ⟨R, hRR⟩ : ∃ R, R = FBinding.flat (l.drop (k + 1)) := ⟨_, rfl⟩
      rw [← hRR] at hO2
      have HD := hid hD0
      have HDD := hid hDD
      have HRR := hid hRR
      have hkp : 1 ≤ kk := by omega
      generalize hCC : cntL (FBinding.flat (l.take k)) = CC at *
      obtain ⟨N5, hN5⟩ : ∃ N : Nat, N = cntL (FEntry.flat z5) := ⟨_, rfl⟩
      rw [← hN5] at hca
      have hkb : kk + ((5 + N5 : Nat) : Int) ≤ 1000000000000000 := by omega
      have HN5 := hid hN5
      have HCC := hid hCC
      clear hx hD0 hDD hRR hkk hca hCC hN5
      obtain ⟨f0, hrow0, hnc0, hln0⟩ := hO2.row
      have hkc : k * 6 + 6 ≤ c * 6 := by have := Nat.mul_le_mul_right 6 (show k + 1 ≤ c by omega); rw [Nat.succ_mul] at this; exact this
      have q0 := hrow0.cell (i := k * 6) (by omega)
      have y0 := hrow0.frozen (k * 6)
      have q1 := hrow0.cell (i := k * 6 + 1) (by omega)
      have y1 := hrow0.frozen (k * 6 + 1)
      have q2 := hrow0.cell (i := k * 6 + 1 + 1) (by omega)
      have y2 := hrow0.frozen (k * 6 + 1 + 1)
      have q3 := hrow0.cell (i := k * 6 + 1 + 2) (by omega)
      have y3 := hrow0.frozen (k * 6 + 1 + 2)
      have q4 := hrow0.cell (i := k * 6 + 1 + 3) (by omega)
      have y4 := hrow0.frozen (k * 6 + 1 + 3)
      have q5 := hrow0.cell (i := k * 6 + 1 + 4) (by omega)
      have y5 := hrow0.frozen (k * 6 + 1 + 4)
      clear hrow0
      go_wp2_with fail
      clear hkc y0 y1 y2 y3 y4 y5 q0 q1 q2 q3 q4 q5
      refine (markText_any _ _ (by omega)).mono ?_
      rintro e w2 ⟨rfl, hb1⟩
      have G1 := hid (OnlyF.of_below HGG.out hb1)
      have P1 := hO2.below hb1 (Nat.le_refl _)
      clear hO2 hb1
      obtain ⟨f1, hrow1, hnc1, hln1⟩ := P1.row
      have hkc : k * 6 + 6 ≤ c * 6 := by have := Nat.mul_le_mul_right 6 (show k + 1 ≤ c by omega); rw [Nat.succ_mul] at this; exact this
      have q0 := hrow1.cell (i := k * 6) (by omega)
      have y0 := hrow1.frozen (k * 6)
      have q1 := hrow1.cell (i := k * 6 + 1) (by omega)
      have y1 := hrow1.frozen (k * 6 + 1)
      have q2 := hrow1.cell (i := k * 6 + 1 + 1) (by omega)
      have y2 := hrow1.frozen (k * 6 + 1 + 1)
      have q3 := hrow1.cell (i := k * 6 + 1 + 2) (by omega)
      have y3 := hrow1.frozen (k * 6 + 1 + 2)
      have q4 := hrow1.cell (i := k * 6 + 1 + 3) (by omega)
      have y4 := hrow1.frozen (k * 6 + 1 + 3)
      have q5 := hrow1.cell (i := k * 6 + 1 + 4) (by omega)
      have y5 := hrow1.frozen (k * 6 + 1 + 4)
      clear hrow1
      go_wp2_with fail
      clear hkc y0 y1 y2 y3 y4 y5 q0 q1 q2 q3 q4 q5
      have O1_0 := OwnC.setv (D := D) (y := .string z0) (R := .v (.int .i64 z1) :: .v (.int .i64 z2) :: .v (.string z3) :: .v (.int .i64 z4) :: .s 153 8 z5.length (FEntry.flat z5) :: R) (by simp only [List.append_assoc, List.cons_append, List.nil_append] at P1 ⊢; exact P1) hF (.string (mt (kk))) (k * 6) (by simp [HD.out])
      clear P1
      have O1_1 := OwnC.setv (D := D ++ [.v (.string (mt (kk)))]) (y := .int .i64 z1) (R := .v (.int .i64 z2) :: .v (.string z3) :: .v (.int .i64 z4) :: .s 153 8 z5.length (FEntry.flat z5) :: R) (by simp only [List.append_assoc, List.cons_append, List.nil_append] at O1_0 ⊢; exact O1_0) hF (.int .i64 (kk + 1)) (k * 6 + 1) (by simp [HD.out])
      clear O1_0
      have O1_2 := OwnC.setv (D := D ++ [.v (.string (mt (kk))), .v (.int .i64 (kk + 1))]) (y := .int .i64 z2) (R := .v (.string z3) :: .v (.int .i64 z4) :: .s 153 8 z5.length (FEntry.flat z5) :: R) (by simp only [List.append_assoc, List.cons_append, List.nil_append] at O1_1 ⊢; exact O1_1) hF (.int .i64 (kk + 1 + 1)) (k * 6 + 1 + 1) (by simp [HD.out])
      clear O1_1
      refine (markText_any _ _ (by omega)).mono ?_
      rintro e w3 ⟨rfl, hb2⟩
      have G2 := hid (OnlyF.of_below (OnlyF.set (OnlyF.set (OnlyF.set G1.out (p := ⟨g, k * 6, none⟩) HG.out (.string (mt (kk)))) (p := ⟨g, k * 6 + 1, none⟩) HG.out (.int .i64 (kk + 1))) (p := ⟨g, k * 6 + 1 + 1, none⟩) HG.out (.int .i64 (kk + 1 + 1))) hb2)
      have P2 := O1_2.below hb2 (Nat.le_refl _)
      clear O1_2 hb2
      obtain ⟨f2, hrow2, hnc2, hln2⟩ := P2.row
      have hkc : k * 6 + 6 ≤ c * 6 := by have := Nat.mul_le_mul_right 6 (show k + 1 ≤ c by omega); rw [Nat.succ_mul] at this; exact this
      have q0 := hrow2.cell (i := k * 6) (by omega)
      have y0 := hrow2.frozen (k * 6)
      have q1 := hrow2.cell (i := k * 6 + 1) (by omega)
      have y1 := hrow2.frozen (k * 6 + 1)
      have q2 := hrow2.cell (i := k * 6 + 1 + 1) (by omega)
      have y2 := hrow2.frozen (k * 6 + 1 + 1)
      have q3 := hrow2.cell (i := k * 6 + 1 + 2) (by omega)
      have y3 := hrow2.frozen (k * 6 + 1 + 2)
      have q4 := hrow2.cell (i := k * 6 + 1 + 3) (by omega)
      have y4 := hrow2.frozen (k * 6 + 1 + 3)
      have q5 := hrow2.cell (i := k * 6 + 1 + 4) (by omega)
      have y5 := hrow2.frozen (k * 6 + 1 + 4)
      clear hrow2
      obtain ⟨g5_, a5, X5, hA5, hgF5, hc5, _, hx5, hsub5, hnd5, hgx5, hback5⟩ := OwnC.at_ (D := D ++ [.v (.string (mt (kk))), .v (.int .i64 (kk + 1)), .v (.int .i64 (kk + 1 + 1)), .v (.string z3), .v (.int .i64 z4)]) (x := .s 153 8 z5.length (FEntry.flat z5)) (R := R) (by simp only [List.append_assoc, List.cons_append, List.nil_append] at P2 ⊢; exact P2) hF
      obtain ⟨A5, c5, rfl⟩ := hx5.form
      simp only [Option.some.injEq, Addr.mk.injEq, and_true] at hA5
      subst hA5
      rw [show (D ++ [.v (.string (mt (kk))), .v (.int .i64 (kk + 1)), .v (.int .i64 (kk + 1 + 1)), .v (.string z3), .v (.int .i64 z4)] : List Cel).length = k * 6 + 1 + 4 from by simp [HD.out]] at hc5
      clear q5
      go_wp2_with fail
      have hcn := hid (show World.cell? ((w3.setCell ⟨g, k * 6 + 1 + 2, none⟩ (.string (mt (kk + 1 + 1 + 1)))).setCell ⟨g, k * 6 + 1 + 3, none⟩ (.int .i64 (kk + 1 + 1 + 1 + 1))) ⟨g, k * 6 + 1 + 4, none⟩ = some _ from (cell_set_other (by omega) (cell_set_other (by omega) hc5)))
      clear hkc y0 y1 y2 y3 y4 y5 q0 q1 q2 q3 q4 hc5 hx5 hsub5 hnd5 hgx5 hback5 hgF5
      have O2_3 := OwnC.setv (D := D ++ [.v (.string (mt (kk))), .v (.int .i64 (kk + 1)), .v (.int .i64 (kk + 1 + 1))]) (y := .string z3) (R := .v (.int .i64 z4) :: .s 153 8 z5.length (FEntry.flat z5) :: R) (by simp only [List.append_assoc, List.cons_append, List.nil_append] at P2 ⊢; exact P2) hF (.string (mt (kk + 1 + 1 + 1))) (k * 6 + 1 + 2) (by simp [HD.out])
      clear P2
      have O2_4 := OwnC.setv (D := D ++ [.v (.string (mt (kk))), .v (.int .i64 (kk + 1)), .v (.int .i64 (kk + 1 + 1)), .v (.string (mt (kk + 1 + 1 + 1)))]) (y := .int .i64 z4) (R := .s 153 8 z5.length (FEntry.flat z5) :: R) (by simp only [List.append_assoc, List.cons_append, List.nil_append] at O2_3 ⊢; exact O2_3) hF (.int .i64 (kk + 1 + 1 + 1 + 1)) (k * 6 + 1 + 3) (by simp [HD.out])
      clear O2_3
      obtain ⟨g_, b5, X, hA_, hgF, hc_, _, hx_, hsub, hnd, hgx, hback⟩ := OwnC.at_ (D := D ++ [.v (.string (mt (kk))), .v (.int .i64 (kk + 1)), .v (.int .i64 (kk + 1 + 1)), .v (.string (mt (kk + 1 + 1 + 1))), .v (.int .i64 (kk + 1 + 1 + 1 + 1))]) (x := .s 153 8 z5.length (FEntry.flat z5)) (R := R) (by simp only [List.append_assoc, List.cons_append, List.nil_append] at O2_4 ⊢; exact O2_4) hF
      simp only [Option.some.injEq, Addr.mk.injEq, and_true] at hA_
      subst hA_
      rw [show (D ++ [.v (.string (mt (kk))), .v (.int .i64 (kk + 1)), .v (.int .i64 (kk + 1 + 1)), .v (.string (mt (kk + 1 + 1 + 1))), .v (.int .i64 (kk + 1 + 1 + 1 + 1))] : List Cel).length = k * 6 + 1 + 4 from by simp [HD.out]] at hc_
      obtain rfl : .slice A5 z5.length c5 = b5 := Option.some.inj (hcn.out.symm.trans hc_)
      obtain ⟨k5_, hnk⟩ : ∃ k : Int, k = kk + 1 + 1 + 1 + 1 + 1 + (N5 : Int) := ⟨_, rfl⟩
      have hcall := HM5.out _ (kk + 1 + 1 + 1 + 1 + 1) X _ (by omega) (by rw [← HN5.out]; omega) hnd hx_
      rw [← HN5.out, ← hnk] at hcall
      have HNK5 := hid hnk
      have hkp5 : 1 ≤ k5_ := by omega
      have hkb5 : k5_ + ((0 : Nat) : Int) ≤ 1000000000000000 := by omega
      clear hnk hc_ hcn
      refine hcall.mono ?_
      clear hcall
      rintro e w4 ⟨rfl, own, hon⟩
      have P3 := hback w4 _ own (fun b hb hnb => hon.block b (OwnC.lt _ _ _ O2_4 b hb) hnb)
      have G3 := hid (OnlyF.call (OnlyF.set (OnlyF.set G2.out (p := ⟨g, k * 6 + 1 + 2, none⟩) HG.out (.string (mt (kk + 1 + 1 + 1)))) (p := ⟨g, k * 6 + 1 + 3, none⟩) HG.out (.int .i64 (kk + 1 + 1 + 1 + 1))) hon hsub)
      clear own hon hback hgx hnd hsub hx_ hgF O2_4
      go_wp2_with fail
      go_roundw
      case rel =>
        have hmk : mkL (FBinding.c ⟨z0, ⟨z1, z2, z3, z4, z5⟩⟩) kk = [.v (.string (mt (kk))), .v (.int .i64 (kk + 1)), .v (.int .i64 (kk + 1 + 1)), .v (.string (mt (kk + 1 + 1 + 1))), .v (.int .i64 (kk + 1 + 1 + 1 + 1)), .s 153 8 z5.length (mkL (FEntry.flat z5) (kk + 1 + 1 + 1 + 1 + 1))] := by
          rw [FBinding.c_eq]
          rw [mkL_v (kk + 1) (by omega)]
          rw [mkL_v (kk + 1 + 1) (by omega)]
          rw [mkL_v (kk + 1 + 1 + 1) (by omega)]
          rw [mkL_v (kk + 1 + 1 + 1 + 1) (by omega)]
          rw [mkL_v (kk + 1 + 1 + 1 + 1 + 1) (by omega)]
          rw [mkL_s (k5_) (by rw [← HN5.out]; exact HNK5.out)]
          rw [mkL_nil]
          rfl
        have hcn : cntL (FBinding.flat (l.take (k + 1))) = CC + (5 + N5) := by
          rw [FBinding.flat_take l k _ HX.out, cntL_append, HCC.out, FBinding.cnt_eq]
          rw [← HN5.out]; try omega
        have hall : mkL (FBinding.flat (l.take (k + 1))) k0 = D ++ [.v (.string (mt (kk))), .v (.int .i64 (kk + 1)), .v (.int .i64 (kk + 1 + 1)), .v (.string (mt (kk + 1 + 1 + 1))), .v (.int .i64 (kk + 1 + 1 + 1 + 1)), .s 153 8 z5.length (mkL (FEntry.flat z5) (kk + 1 + 1 + 1 + 1 + 1))] := by
          rw [FBinding.flat_take l k _ HX.out, mkL_append, HCC.out, ← HKK.out, ← HDD.out, hmk]
        refine ⟨k + 1, _, by omega, by go_num, rfl, ?_, ?_, G3.out⟩
        · rw [hcn]
          have := HKK.out
          have := HNK5.out; omega
        · rw [hall, ← HRR.out]
          simp only [List.append_assoc, List.cons_append, List.nil_append] at P3 ⊢
          exact P3
      case measure => simp [intOf]; omega
    · obtain rfl : k = l.length := by omega
      clear hlt
      go_wp2_with fail
      go_ret
      have e := HO1.out
      rw [List.take_length, List.drop_length] at e
      have e2 := HKK.out
      rw [List.take_length] at e2
      exact ⟨ret_int e2, by simpa using e, HGG.out⟩
theorem markBindingS_any (l : List FBinding) : MarkBindingS l := markBindingS_of l (fun x _ => by
  obtain ⟨z0, ⟨z1, z2, z3, z4, z5⟩⟩ := x
  exact markEntryS_any z5)
theorem FObject.flat_len (l : List FObject) : (FObject.flat l).length = l.length * 3 := by
  induction l with
  | nil => simp
  | cons x r ih =>
    have e : FObject.flat (x :: r) = x.c ++ FObject.flat r := List.flatMap_cons
    rw [e, List.length_append, ih, FObject.len, List.length_cons]
    omega
theorem FObject.flat_at (l : List FObject) (k : Nat) (x : FObject) (h : l[k]? = some x) : l.drop k = x :: l.drop (k + 1) := by
  have hk := (List.getElem?_eq_some_iff.1 h).1
  rw [List.drop_eq_getElem_cons hk, (List.getElem?_eq_some_iff.1 h).2]
theorem FObject.flat_take (l : List FObject) (k : Nat) (x : FObject) (h : l[k]? = some x) : FObject.flat (l.take (k + 1)) = FObject.flat (l.take k) ++ x.c := by
  rw [List.take_add_one, h]
  simp [FObject.flat]
theorem FObject.flat_split (l : List FObject) (k : Nat) (x : FObject) (h : l[k]? = some x) : FObject.flat l = FObject.flat (l.take k) ++ (x.c ++ FObject.flat (l.drop (k + 1))) := by
  have e : FObject.flat (l.take k ++ l.drop k) = FObject.flat (l.take k) ++ FObject.flat (l.drop k) := List.flatMap_append
  rw [List.take_append_drop] at e
  rw [e, FObject.flat_at l k x h]
  have e2 : FObject.flat (x :: l.drop (k + 1)) = x.c ++ FObject.flat (l.drop (k + 1)) := List.flatMap_cons
  rw [e2]
theorem FObject.cnt_at (l : List FObject) (k : Nat) (x : FObject) (h : l[k]? = some x) : cntL (FObject.flat (l.take k)) + cntL x.c ≤ cntL (FObject.flat l) := by
  rw [FObject.flat_split l k x h, cntL_append, cntL_append]
  omega
theorem FObject.cnt_eq (z0 : ByteArray) (z1 : Bool) (z2 : List FBinding) : cntL (FObject.c ⟨z0, z1, z2⟩) = 2 + cntL (FBinding.flat z2) := by
  rw [FObject.c_eq]
  simp only [cntL, Cel.cnt]
  try omega
def MarkObjectS (l : List FObject) : Prop := ∀ (u : Value) (k0 : Int) (F : List Nat) (w : World), 1 ≤ k0 → k0 + (cntL (FObject.flat l) : Int) ≤ 1000000000000000 → F.Nodup → OwnC w (.s 79 3 l.length (FObject.flat l)) F u → Calls Tryz.prog 44 #[u, .int .i64 k0] w fun e w' => e = .returned (.int .i64 (k0 + (cntL (FObject.flat l) : Int))) ∧ OwnC w' (.s 79 3 l.length (mkL (FObject.flat l) k0)) F u ∧ OnlyF F w w'
def MkObject : FObject → Prop
  | ⟨z0, z1, z2⟩ => MarkBindingS z2
theorem cntb1_Object (x : FObject) : cntL x.c ≤ 20 + 20 * x.wt := by
  obtain ⟨z0, z1, z2⟩ := x
  rw [FObject.cnt_eq, FObject.wt_eq]
  have b2 := cntb_BindingS z2
  omega
theorem cntb_ObjectS : ∀ l : List FObject, cntL (FObject.flat l) ≤ 20 * (l.length + FObject.wts l)
  | [] => by simp [cntL]
  | x :: r => by
    have e : FObject.flat (x :: r) = x.c ++ FObject.flat r := List.flatMap_cons
    have h1 := cntb1_Object x
    have h2 := cntb_ObjectS r
    rw [e, cntL_append, FObject.wts, List.length_cons]
    omega
theorem markObjectS_of (l : List FObject) (he : ∀ x, x ∈ l → MkObject x) : MarkObjectS l := by
  intro u k0 F w h1 h2 hF hO
  obtain ⟨A, c, rfl⟩ := hO.form
  have hcap := hO.read.cap
  have hn : l.length ≤ 9223372036854775807 := by unfold maxLen at hcap; omega
  have HO := hid hO
  clear hcap
  by_cases hl0 : l.length = 0
  · obtain rfl : l = [] := List.eq_nil_of_length_eq_zero hl0
    clear hO hl0 he
    go_enter Tryz.func44, Tryz.ntmps44
    go_wp2_with fail
    go_loop [1, 5] (fun kv i => kv = .int .i64 k0 ∧ i = .int .i64 0) (fun _ i => 0)
    case atStart => exact ⟨rfl, rfl⟩
    case round =>
      obtain ⟨rfl, rfl⟩ := hrel
      go_wp2_with fail
      go_ret
      exact ⟨ret_int (by simp [cntL]), by simpa [mkL] using HO.out, OnlyF.refl _ _⟩
  obtain ⟨g, hA, hg⟩ := hO.head (by omega)
  subst hA
  have HE := hid he
  clear he
  have HG := hid hg
  clear hO hg hl0
  go_enter Tryz.func44, Tryz.ntmps44
  go_wp2_with fail
  go_loopw [1, 5] (fun kv i wr => ∃ (k : Nat) (kk : Int), k ≤ l.length ∧ i = .int .i64 k ∧ kv = .int .i64 kk ∧ kk = k0 + (cntL (FObject.flat (l.take k)) : Int) ∧ OwnC wr (.s 79 3 l.length (mkL (FObject.flat (l.take k)) k0 ++ FObject.flat (l.drop k))) F (.slice (some ⟨g, 0, none⟩) l.length c) ∧ OnlyF F w wr) (fun _ i _ => l.length - (intOf i).toNat)
  case atStart => exact ⟨0, k0, Nat.zero_le _, rfl, rfl, by simp [cntL], by simpa [mkL] using HO.out, OnlyF.refl _ _⟩
  case round =>
    obtain ⟨k, kk, hk, rfl, rfl, hkk, hO, hG⟩ := hrel
    have HKK := hid hkk
    have HO1 := hid hO
    have HGG := hid hG
    clear hO hG
    by_cases hlt : k < l.length
    · obtain ⟨x, hx⟩ : ∃ x, l[k]? = some x := ⟨_, List.getElem?_eq_getElem hlt⟩
      have HX := hid hx
      have hca := FObject.cnt_at l k x hx
      have hD0 : (mkL (FObject.flat (l.take k)) k0).length = k * 3 := by rw [mkL_len, FObject.flat_len, List.length_take]; congr 1; omega
      have hO2 := HO1.out
      rw [FObject.flat_at l k x hx] at hO2
      have hmx := HE.out x (List.mem_of_getElem? hx)
      obtain ⟨z0, z1, z2⟩ := x
      rw [show FObject.flat (⟨z0, z1, z2⟩ :: l.drop (k + 1)) = (FObject.c ⟨z0, z1, z2⟩) ++ FObject.flat (l.drop (k + 1)) from List.flatMap_cons, FObject.c_eq] at hO2
      rw [FObject.cnt_eq] at hca
      have M2 : MarkBindingS z2 := hmx
      have HM2 := hid M2
      clear hmx M2
      obtain ⟨D, hDD⟩ : ∃ D, D = mkL (FObject.flat (l.take k)) k0 := ⟨_, rfl⟩
      rw [← hDD] at hD0 hO2
      obtain ⟨R, hRR⟩ : ∃ R, R = FObject.flat (l.drop (k + 1)) := ⟨_, rfl⟩
      rw [← hRR] at hO2
      have HD := hid hD0
      have HDD := hid hDD
      have HRR := hid hRR
      have hkp : 1 ≤ kk := by omega
      generalize hCC : cntL (FObject.flat (l.take k)) = CC at *
      obtain ⟨N2, hN2⟩ : ∃ N : Nat, N = cntL (FBinding.flat z2) := ⟨_, rfl⟩
      rw [← hN2] at hca
      have hkb : kk + ((2 + N2 : Nat) : Int) ≤ 1000000000000000 := by omega
      have HN2 := hid hN2
      have HCC := hid hCC
      clear hx hD0 hDD hRR hkk hca hCC hN2
      obtain ⟨f0, hrow0, hnc0, hln0⟩ := hO2.row
      have hkc : k * 3 + 3 ≤ c * 3 := by have := Nat.mul_le_mul_right 3 (show k + 1 ≤ c by omega); rw [Nat.succ_mul] at this; exact this
      have q0 := hrow0.cell (i := k * 3) (by omega)
      have y0 := hrow0.frozen (k * 3)
      have q1 := hrow0.cell (i := k * 3 + 1) (by omega)
      have y1 := hrow0.frozen (k * 3 + 1)
      have q2 := hrow0.cell (i := k * 3 + 2) (by omega)
      have y2 := hrow0.frozen (k * 3 + 2)
      clear hrow0
      go_wp2_with fail
      clear hkc y0 y1 y2 q0 q1 q2
      refine (markText_any _ _ (by omega)).mono ?_
      rintro e w2 ⟨rfl, hb1⟩
      have G1 := hid (OnlyF.of_below HGG.out hb1)
      have P1 := hO2.below hb1 (Nat.le_refl _)
      clear hO2 hb1
      obtain ⟨f1, hrow1, hnc1, hln1⟩ := P1.row
      have hkc : k * 3 + 3 ≤ c * 3 := by have := Nat.mul_le_mul_right 3 (show k + 1 ≤ c by omega); rw [Nat.succ_mul] at this; exact this
      have q0 := hrow1.cell (i := k * 3) (by omega)
      have y0 := hrow1.frozen (k * 3)
      have q1 := hrow1.cell (i := k * 3 + 1) (by omega)
      have y1 := hrow1.frozen (k * 3 + 1)
      have q2 := hrow1.cell (i := k * 3 + 2) (by omega)
      have y2 := hrow1.frozen (k * 3 + 2)
      clear hrow1
      obtain ⟨g2_, a2, X2, hA2, hgF2, hc2, _, hx2, hsub2, hnd2, hgx2, hback2⟩ := OwnC.at_ (D := D ++ [.v (.string z0), .v (.bool z1)]) (x := .s 84 6 z2.length (FBinding.flat z2)) (R := R) (by simp only [List.append_assoc, List.cons_append, List.nil_append] at P1 ⊢; exact P1) hF
      obtain ⟨A2, c2, rfl⟩ := hx2.form
      simp only [Option.some.injEq, Addr.mk.injEq, and_true] at hA2
      subst hA2
      rw [show (D ++ [.v (.string z0), .v (.bool z1)] : List Cel).length = k * 3 + 2 from by simp [HD.out]] at hc2
      clear q2
      go_wp2_with fail
      have hcn := hid (show World.cell? ((w2.setCell ⟨g, k * 3, none⟩ (.string (mt (kk)))).setCell ⟨g, k * 3 + 1, none⟩ (.bool ((kk + 1) % 3 == 0))) ⟨g, k * 3 + 2, none⟩ = some _ from (cell_set_other (by omega) (cell_set_other (by omega) hc2)))
      clear hkc y0 y1 y2 q0 q1 hc2 hx2 hsub2 hnd2 hgx2 hback2 hgF2
      have O1_0 := OwnC.setv (D := D) (y := .string z0) (R := .v (.bool z1) :: .s 84 6 z2.length (FBinding.flat z2) :: R) (by simp only [List.append_assoc, List.cons_append, List.nil_append] at P1 ⊢; exact P1) hF (.string (mt (kk))) (k * 3) (by simp [HD.out])
      clear P1
      have O1_1 := OwnC.setv (D := D ++ [.v (.string (mt (kk)))]) (y := .bool z1) (R := .s 84 6 z2.length (FBinding.flat z2) :: R) (by simp only [List.append_assoc, List.cons_append, List.nil_append] at O1_0 ⊢; exact O1_0) hF (.bool ((kk + 1) % 3 == 0)) (k * 3 + 1) (by simp [HD.out])
      clear O1_0
      obtain ⟨g_, b2, X, hA_, hgF, hc_, _, hx_, hsub, hnd, hgx, hback⟩ := OwnC.at_ (D := D ++ [.v (.string (mt (kk))), .v (.bool ((kk + 1) % 3 == 0))]) (x := .s 84 6 z2.length (FBinding.flat z2)) (R := R) (by simp only [List.append_assoc, List.cons_append, List.nil_append] at O1_1 ⊢; exact O1_1) hF
      simp only [Option.some.injEq, Addr.mk.injEq, and_true] at hA_
      subst hA_
      rw [show (D ++ [.v (.string (mt (kk))), .v (.bool ((kk + 1) % 3 == 0))] : List Cel).length = k * 3 + 2 from by simp [HD.out]] at hc_
      obtain rfl : .slice A2 z2.length c2 = b2 := Option.some.inj (hcn.out.symm.trans hc_)
      obtain ⟨k2_, hnk⟩ : ∃ k : Int, k = kk + 1 + 1 + (N2 : Int) := ⟨_, rfl⟩
      have hcall := HM2.out _ (kk + 1 + 1) X _ (by omega) (by rw [← HN2.out]; omega) hnd hx_
      rw [← HN2.out, ← hnk] at hcall
      have HNK2 := hid hnk
      have hkp2 : 1 ≤ k2_ := by omega
      have hkb2 : k2_ + ((0 : Nat) : Int) ≤ 1000000000000000 := by omega
      clear hnk hc_ hcn
      refine hcall.mono ?_
      clear hcall
      rintro e w3 ⟨rfl, own, hon⟩
      have P2 := hback w3 _ own (fun b hb hnb => hon.block b (OwnC.lt _ _ _ O1_1 b hb) hnb)
      have G2 := hid (OnlyF.call (OnlyF.set (OnlyF.set G1.out (p := ⟨g, k * 3, none⟩) HG.out (.string (mt (kk)))) (p := ⟨g, k * 3 + 1, none⟩) HG.out (.bool ((kk + 1) % 3 == 0))) hon hsub)
      clear own hon hback hgx hnd hsub hx_ hgF O1_1
      go_wp2_with fail
      go_roundw
      case rel =>
        have hmk : mkL (FObject.c ⟨z0, z1, z2⟩) kk = [.v (.string (mt (kk))), .v (.bool ((kk + 1) % 3 == 0)), .s 84 6 z2.length (mkL (FBinding.flat z2) (kk + 1 + 1))] := by
          rw [FObject.c_eq]
          rw [mkL_v (kk + 1) (by omega)]
          rw [mkL_v (kk + 1 + 1) (by omega)]
          rw [mkL_s (k2_) (by rw [← HN2.out]; exact HNK2.out)]
          rw [mkL_nil]
          rfl
        have hcn : cntL (FObject.flat (l.take (k + 1))) = CC + (2 + N2) := by
          rw [FObject.flat_take l k _ HX.out, cntL_append, HCC.out, FObject.cnt_eq]
          rw [← HN2.out]; try omega
        have hall : mkL (FObject.flat (l.take (k + 1))) k0 = D ++ [.v (.string (mt (kk))), .v (.bool ((kk + 1) % 3 == 0)), .s 84 6 z2.length (mkL (FBinding.flat z2) (kk + 1 + 1))] := by
          rw [FObject.flat_take l k _ HX.out, mkL_append, HCC.out, ← HKK.out, ← HDD.out, hmk]
        refine ⟨k + 1, _, by omega, by go_num, rfl, ?_, ?_, G2.out⟩
        · rw [hcn]
          have := HKK.out
          have := HNK2.out; omega
        · rw [hall, ← HRR.out]
          simp only [List.append_assoc, List.cons_append, List.nil_append] at P2 ⊢
          exact P2
      case measure => simp [intOf]; omega
    · obtain rfl : k = l.length := by omega
      clear hlt
      go_wp2_with fail
      go_ret
      have e := HO1.out
      rw [List.take_length, List.drop_length] at e
      have e2 := HKK.out
      rw [List.take_length] at e2
      exact ⟨ret_int e2, by simpa using e, HGG.out⟩
theorem markObjectS_any (l : List FObject) : MarkObjectS l := markObjectS_of l (fun x _ => by
  obtain ⟨z0, z1, z2⟩ := x
  exact markBindingS_any z2)
theorem FClosure.flat_len (l : List FClosure) : (FClosure.flat l).length = l.length * 5 := by
  induction l with
  | nil => simp
  | cons x r ih =>
    have e : FClosure.flat (x :: r) = x.c ++ FClosure.flat r := List.flatMap_cons
    rw [e, List.length_append, ih, FClosure.len, List.length_cons]
    omega
theorem FClosure.flat_at (l : List FClosure) (k : Nat) (x : FClosure) (h : l[k]? = some x) : l.drop k = x :: l.drop (k + 1) := by
  have hk := (List.getElem?_eq_some_iff.1 h).1
  rw [List.drop_eq_getElem_cons hk, (List.getElem?_eq_some_iff.1 h).2]
theorem FClosure.flat_take (l : List FClosure) (k : Nat) (x : FClosure) (h : l[k]? = some x) : FClosure.flat (l.take (k + 1)) = FClosure.flat (l.take k) ++ x.c := by
  rw [List.take_add_one, h]
  simp [FClosure.flat]
theorem FClosure.flat_split (l : List FClosure) (k : Nat) (x : FClosure) (h : l[k]? = some x) : FClosure.flat l = FClosure.flat (l.take k) ++ (x.c ++ FClosure.flat (l.drop (k + 1))) := by
  have e : FClosure.flat (l.take k ++ l.drop k) = FClosure.flat (l.take k) ++ FClosure.flat (l.drop k) := List.flatMap_append
  rw [List.take_append_drop] at e
  rw [e, FClosure.flat_at l k x h]
  have e2 : FClosure.flat (x :: l.drop (k + 1)) = x.c ++ FClosure.flat (l.drop (k + 1)) := List.flatMap_cons
  rw [e2]
theorem FClosure.cnt_at (l : List FClosure) (k : Nat) (x : FClosure) (h : l[k]? = some x) : cntL (FClosure.flat (l.take k)) + cntL x.c ≤ cntL (FClosure.flat l) := by
  rw [FClosure.flat_split l k x h, cntL_append, cntL_append]
  omega
theorem FClosure.cnt_eq (z0 : Int) (z1 : List FInt) (z2 : Int) (z3 : ByteArray) (z4 : ByteArray) : cntL (FClosure.c ⟨z0, z1, z2, z3, z4⟩) = 4 + cntL (FInt.flat z1) := by
  rw [FClosure.c_eq]
  simp only [cntL, Cel.cnt]
  try omega
def MarkClosureS (l : List FClosure) : Prop := ∀ (u : Value) (k0 : Int) (F : List Nat) (w : World), 1 ≤ k0 → k0 + (cntL (FClosure.flat l) : Int) ≤ 1000000000000000 → F.Nodup → OwnC w (.s 144 5 l.length (FClosure.flat l)) F u → Calls Tryz.prog 45 #[u, .int .i64 k0] w fun e w' => e = .returned (.int .i64 (k0 + (cntL (FClosure.flat l) : Int))) ∧ OwnC w' (.s 144 5 l.length (mkL (FClosure.flat l) k0)) F u ∧ OnlyF F w w'
def MkClosure : FClosure → Prop
  | ⟨z0, z1, z2, z3, z4⟩ => MarkIntS z1
theorem cntb1_Closure (x : FClosure) : cntL x.c ≤ 20 + 20 * x.wt := by
  obtain ⟨z0, z1, z2, z3, z4⟩ := x
  rw [FClosure.cnt_eq, FClosure.wt_eq]
  have b1 := cntb_IntS z1
  omega
theorem cntb_ClosureS : ∀ l : List FClosure, cntL (FClosure.flat l) ≤ 20 * (l.length + FClosure.wts l)
  | [] => by simp [cntL]
  | x :: r => by
    have e : FClosure.flat (x :: r) = x.c ++ FClosure.flat r := List.flatMap_cons
    have h1 := cntb1_Closure x
    have h2 := cntb_ClosureS r
    rw [e, cntL_append, FClosure.wts, List.length_cons]
    omega
theorem markClosureS_of (l : List FClosure) (he : ∀ x, x ∈ l → MkClosure x) : MarkClosureS l := by
  intro u k0 F w h1 h2 hF hO
  obtain ⟨A, c, rfl⟩ := hO.form
  have hcap := hO.read.cap
  have hn : l.length ≤ 9223372036854775807 := by unfold maxLen at hcap; omega
  have HO := hid hO
  clear hcap
  by_cases hl0 : l.length = 0
  · obtain rfl : l = [] := List.eq_nil_of_length_eq_zero hl0
    clear hO hl0 he
    go_enter Tryz.func45, Tryz.ntmps45
    go_wp2_with fail
    go_loop [1, 5] (fun kv i => kv = .int .i64 k0 ∧ i = .int .i64 0) (fun _ i => 0)
    case atStart => exact ⟨rfl, rfl⟩
    case round =>
      obtain ⟨rfl, rfl⟩ := hrel
      go_wp2_with fail
      go_ret
      exact ⟨ret_int (by simp [cntL]), by simpa [mkL] using HO.out, OnlyF.refl _ _⟩
  obtain ⟨g, hA, hg⟩ := hO.head (by omega)
  subst hA
  have HE := hid he
  clear he
  have HG := hid hg
  clear hO hg hl0
  go_enter Tryz.func45, Tryz.ntmps45
  go_wp2_with fail
  go_loopw [1, 5] (fun kv i wr => ∃ (k : Nat) (kk : Int), k ≤ l.length ∧ i = .int .i64 k ∧ kv = .int .i64 kk ∧ kk = k0 + (cntL (FClosure.flat (l.take k)) : Int) ∧ OwnC wr (.s 144 5 l.length (mkL (FClosure.flat (l.take k)) k0 ++ FClosure.flat (l.drop k))) F (.slice (some ⟨g, 0, none⟩) l.length c) ∧ OnlyF F w wr) (fun _ i _ => l.length - (intOf i).toNat)
  case atStart => exact ⟨0, k0, Nat.zero_le _, rfl, rfl, by simp [cntL], by simpa [mkL] using HO.out, OnlyF.refl _ _⟩
  case round =>
    obtain ⟨k, kk, hk, rfl, rfl, hkk, hO, hG⟩ := hrel
    have HKK := hid hkk
    have HO1 := hid hO
    have HGG := hid hG
    clear hO hG
    by_cases hlt : k < l.length
    · obtain ⟨x, hx⟩ : ∃ x, l[k]? = some x := ⟨_, List.getElem?_eq_getElem hlt⟩
      have HX := hid hx
      have hca := FClosure.cnt_at l k x hx
      have hD0 : (mkL (FClosure.flat (l.take k)) k0).length = k * 5 := by rw [mkL_len, FClosure.flat_len, List.length_take]; congr 1; omega
      have hO2 := HO1.out
      rw [FClosure.flat_at l k x hx] at hO2
      have hmx := HE.out x (List.mem_of_getElem? hx)
      obtain ⟨z0, z1, z2, z3, z4⟩ := x
      rw [show FClosure.flat (⟨z0, z1, z2, z3, z4⟩ :: l.drop (k + 1)) = (FClosure.c ⟨z0, z1, z2, z3, z4⟩) ++ FClosure.flat (l.drop (k + 1)) from List.flatMap_cons, FClosure.c_eq] at hO2
      rw [FClosure.cnt_eq] at hca
      have M1 : MarkIntS z1 := hmx
      have HM1 := hid M1
      clear hmx M1
      obtain ⟨D, hDD⟩ : ∃ D, D = mkL (FClosure.flat (l.take k)) k0 := ⟨_, rfl⟩
      rw [← hDD] at hD0 hO2
      obtain ⟨R, hRR⟩ : ∃ R, R = FClosure.flat (l.drop (k + 1)) := ⟨_, rfl⟩
      rw [← hRR] at hO2
      have HD := hid hD0
      have HDD := hid hDD
      have HRR := hid hRR
      have hkp : 1 ≤ kk := by omega
      generalize hCC : cntL (FClosure.flat (l.take k)) = CC at *
      obtain ⟨N1, hN1⟩ : ∃ N : Nat, N = cntL (FInt.flat z1) := ⟨_, rfl⟩
      rw [← hN1] at hca
      have hkb : kk + ((4 + N1 : Nat) : Int) ≤ 1000000000000000 := by omega
      have HN1 := hid hN1
      have HCC := hid hCC
      clear hx hD0 hDD hRR hkk hca hCC hN1
      obtain ⟨f0, hrow0, hnc0, hln0⟩ := hO2.row
      have hkc : k * 5 + 5 ≤ c * 5 := by have := Nat.mul_le_mul_right 5 (show k + 1 ≤ c by omega); rw [Nat.succ_mul] at this; exact this
      have q0 := hrow0.cell (i := k * 5) (by omega)
      have y0 := hrow0.frozen (k * 5)
      have q1 := hrow0.cell (i := k * 5 + 1) (by omega)
      have y1 := hrow0.frozen (k * 5 + 1)
      have q2 := hrow0.cell (i := k * 5 + 2) (by omega)
      have y2 := hrow0.frozen (k * 5 + 2)
      have q3 := hrow0.cell (i := k * 5 + 3) (by omega)
      have y3 := hrow0.frozen (k * 5 + 3)
      have q4 := hrow0.cell (i := k * 5 + 4) (by omega)
      have y4 := hrow0.frozen (k * 5 + 4)
      clear hrow0
      obtain ⟨g1_, a1, X1, hA1, hgF1, hc1, _, hx1, hsub1, hnd1, hgx1, hback1⟩ := OwnC.at_ (D := D ++ [.v (.int .i64 z0)]) (x := .s 3 1 z1.length (FInt.flat z1)) (R := .v (.int .i64 z2) :: .v (.string z3) :: .v (.string z4) :: R) (by simp only [List.append_assoc, List.cons_append, List.nil_append] at hO2 ⊢; exact hO2) hF
      obtain ⟨A1, c1, rfl⟩ := hx1.form
      simp only [Option.some.injEq, Addr.mk.injEq, and_true] at hA1
      subst hA1
      rw [show (D ++ [.v (.int .i64 z0)] : List Cel).length = k * 5 + 1 from by simp [HD.out]] at hc1
      clear q1
      go_wp2_with fail
      have hcn := hid (show World.cell? (wr.setCell ⟨g, k * 5, none⟩ (.int .i64 (kk))) ⟨g, k * 5 + 1, none⟩ = some _ from (cell_set_other (by omega) hc1))
      clear hkc y0 y1 y2 y3 y4 q0 q2 q3 q4 hc1 hx1 hsub1 hnd1 hgx1 hback1 hgF1
      have O0_0 := OwnC.setv (D := D) (y := .int .i64 z0) (R := .s 3 1 z1.length (FInt.flat z1) :: .v (.int .i64 z2) :: .v (.string z3) :: .v (.string z4) :: R) (by simp only [List.append_assoc, List.cons_append, List.nil_append] at hO2 ⊢; exact hO2) hF (.int .i64 (kk)) (k * 5) (by simp [HD.out])
      clear hO2
      obtain ⟨g_, b1, X, hA_, hgF, hc_, _, hx_, hsub, hnd, hgx, hback⟩ := OwnC.at_ (D := D ++ [.v (.int .i64 (kk))]) (x := .s 3 1 z1.length (FInt.flat z1)) (R := .v (.int .i64 z2) :: .v (.string z3) :: .v (.string z4) :: R) (by simp only [List.append_assoc, List.cons_append, List.nil_append] at O0_0 ⊢; exact O0_0) hF
      simp only [Option.some.injEq, Addr.mk.injEq, and_true] at hA_
      subst hA_
      rw [show (D ++ [.v (.int .i64 (kk))] : List Cel).length = k * 5 + 1 from by simp [HD.out]] at hc_
      obtain rfl : .slice A1 z1.length c1 = b1 := Option.some.inj (hcn.out.symm.trans hc_)
      obtain ⟨k1_, hnk⟩ : ∃ k : Int, k = kk + 1 + (N1 : Int) := ⟨_, rfl⟩
      have hcall := HM1.out _ (kk + 1) X _ (by omega) (by rw [← HN1.out]; omega) hnd hx_
      rw [← HN1.out, ← hnk] at hcall
      have HNK1 := hid hnk
      have hkp1 : 1 ≤ k1_ := by omega
      have hkb1 : k1_ + ((3 : Nat) : Int) ≤ 1000000000000000 := by omega
      clear hnk hc_ hcn
      refine hcall.mono ?_
      clear hcall
      rintro e w2 ⟨rfl, own, hon⟩
      have P1 := hback w2 _ own (fun b hb hnb => hon.block b (OwnC.lt _ _ _ O0_0 b hb) hnb)
      have G1 := hid (OnlyF.call (OnlyF.set HGG.out (p := ⟨g, k * 5, none⟩) HG.out (.int .i64 (kk))) hon hsub)
      clear own hon hback hgx hnd hsub hx_ hgF O0_0
      obtain ⟨f1, hrow1, hnc1, hln1⟩ := P1.row
      have hkc : k * 5 + 5 ≤ c * 5 := by have := Nat.mul_le_mul_right 5 (show k + 1 ≤ c by omega); rw [Nat.succ_mul] at this; exact this
      have q0 := hrow1.cell (i := k * 5) (by omega)
      have y0 := hrow1.frozen (k * 5)
      have q1 := hrow1.cell (i := k * 5 + 1) (by omega)
      have y1 := hrow1.frozen (k * 5 + 1)
      have q2 := hrow1.cell (i := k * 5 + 2) (by omega)
      have y2 := hrow1.frozen (k * 5 + 2)
      have q3 := hrow1.cell (i := k * 5 + 3) (by omega)
      have y3 := hrow1.frozen (k * 5 + 3)
      have q4 := hrow1.cell (i := k * 5 + 4) (by omega)
      have y4 := hrow1.frozen (k * 5 + 4)
      clear hrow1
      go_wp2_with fail
      clear hkc y0 y1 y2 y3 y4 q0 q1 q2 q3 q4
      have O1_2 := OwnC.setv (D := D ++ [.v (.int .i64 (kk)), .s 3 1 z1.length (mkL (FInt.flat z1) (kk + 1))]) (y := .int .i64 z2) (R := .v (.string z3) :: .v (.string z4) :: R) (by simp only [List.append_assoc, List.cons_append, List.nil_append] at P1 ⊢; exact P1) hF (.int .i64 (k1_)) (k * 5 + 2) (by simp [HD.out])
      clear P1
      refine (markText_any _ _ (by omega)).mono ?_
      rintro e w3 ⟨rfl, hb2⟩
      have G2 := hid (OnlyF.of_below (OnlyF.set G1.out (p := ⟨g, k * 5 + 2, none⟩) HG.out (.int .i64 (k1_))) hb2)
      have P2 := O1_2.below hb2 (Nat.le_refl _)
      clear O1_2 hb2
      obtain ⟨f2, hrow2, hnc2, hln2⟩ := P2.row
      have hkc : k * 5 + 5 ≤ c * 5 := by have := Nat.mul_le_mul_right 5 (show k + 1 ≤ c by omega); rw [Nat.succ_mul] at this; exact this
      have q0 := hrow2.cell (i := k * 5) (by omega)
      have y0 := hrow2.frozen (k * 5)
      have q1 := hrow2.cell (i := k * 5 + 1) (by omega)
      have y1 := hrow2.frozen (k * 5 + 1)
      have q2 := hrow2.cell (i := k * 5 + 2) (by omega)
      have y2 := hrow2.frozen (k * 5 + 2)
      have q3 := hrow2.cell (i := k * 5 + 3) (by omega)
      have y3 := hrow2.frozen (k * 5 + 3)
      have q4 := hrow2.cell (i := k * 5 + 4) (by omega)
      have y4 := hrow2.frozen (k * 5 + 4)
      clear hrow2
      go_wp2_with fail
      clear hkc y0 y1 y2 y3 y4 q0 q1 q2 q3 q4
      have O2_3 := OwnC.setv (D := D ++ [.v (.int .i64 (kk)), .s 3 1 z1.length (mkL (FInt.flat z1) (kk + 1)), .v (.int .i64 (k1_))]) (y := .string z3) (R := .v (.string z4) :: R) (by simp only [List.append_assoc, List.cons_append, List.nil_append] at P2 ⊢; exact P2) hF (.string (mt (k1_ + 1))) (k * 5 + 3) (by simp [HD.out])
      clear P2
      refine (markText_any _ _ (by omega)).mono ?_
      rintro e w4 ⟨rfl, hb3⟩
      have G3 := hid (OnlyF.of_below (OnlyF.set G2.out (p := ⟨g, k * 5 + 3, none⟩) HG.out (.string (mt (k1_ + 1)))) hb3)
      have P3 := O2_3.below hb3 (Nat.le_refl _)
      clear O2_3 hb3
      obtain ⟨f3, hrow3, hnc3, hln3⟩ := P3.row
      have hkc : k * 5 + 5 ≤ c * 5 := by have := Nat.mul_le_mul_right 5 (show k + 1 ≤ c by omega); rw [Nat.succ_mul] at this; exact this
      have q0 := hrow3.cell (i := k * 5) (by omega)
      have y0 := hrow3.frozen (k * 5)
      have q1 := hrow3.cell (i := k * 5 + 1) (by omega)
      have y1 := hrow3.frozen (k * 5 + 1)
      have q2 := hrow3.cell (i := k * 5 + 2) (by omega)
      have y2 := hrow3.frozen (k * 5 + 2)
      have q3 := hrow3.cell (i := k * 5 + 3) (by omega)
      have y3 := hrow3.frozen (k * 5 + 3)
      have q4 := hrow3.cell (i := k * 5 + 4) (by omega)
      have y4 := hrow3.frozen (k * 5 + 4)
      clear hrow3
      go_wp2_with fail
      clear hkc y0 y1 y2 y3 y4 q0 q1 q2 q3 q4
      have O3_4 := OwnC.setv (D := D ++ [.v (.int .i64 (kk)), .s 3 1 z1.length (mkL (FInt.flat z1) (kk + 1)), .v (.int .i64 (k1_)), .v (.string (mt (k1_ + 1)))]) (y := .string z4) (R := R) (by simp only [List.append_assoc, List.cons_append, List.nil_append] at P3 ⊢; exact P3) hF (.string (mt (k1_ + 1 + 1))) (k * 5 + 4) (by simp [HD.out])
      clear P3
      go_roundw
      case rel =>
        have hmk : mkL (FClosure.c ⟨z0, z1, z2, z3, z4⟩) kk = [.v (.int .i64 (kk)), .s 3 1 z1.length (mkL (FInt.flat z1) (kk + 1)), .v (.int .i64 (k1_)), .v (.string (mt (k1_ + 1))), .v (.string (mt (k1_ + 1 + 1)))] := by
          rw [FClosure.c_eq]
          rw [mkL_v (kk + 1) (by omega)]
          rw [mkL_s (k1_) (by rw [← HN1.out]; exact HNK1.out)]
          rw [mkL_v (k1_ + 1) (by omega)]
          rw [mkL_v (k1_ + 1 + 1) (by omega)]
          rw [mkL_v (k1_ + 1 + 1 + 1) (by omega)]
          rw [mkL_nil]
          rfl
        have hcn : cntL (FClosure.flat (l.take (k + 1))) = CC + (4 + N1) := by
          rw [FClosure.flat_take l k _ HX.out, cntL_append, HCC.out, FClosure.cnt_eq]
          rw [← HN1.out]; try omega
        have hall : mkL (FClosure.flat (l.take (k + 1))) k0 = D ++ [.v (.int .i64 (kk)), .s 3 1 z1.length (mkL (FInt.flat z1) (kk + 1)), .v (.int .i64 (k1_)), .v (.string (mt (k1_ + 1))), .v (.string (mt (k1_ + 1 + 1)))] := by
          rw [FClosure.flat_take l k _ HX.out, mkL_append, HCC.out, ← HKK.out, ← HDD.out, hmk]
        refine ⟨k + 1, _, by omega, by go_num, rfl, ?_, ?_, (OnlyF.set G3.out (p := ⟨g, k * 5 + 4, none⟩) HG.out (.string (mt (k1_ + 1 + 1))))⟩
        · rw [hcn]
          have := HKK.out
          have := HNK1.out; omega
        · rw [hall, ← HRR.out]
          simp only [List.append_assoc, List.cons_append, List.nil_append] at O3_4 ⊢
          exact O3_4
      case measure => simp [intOf]; omega
    · obtain rfl : k = l.length := by omega
      clear hlt
      go_wp2_with fail
      go_ret
      have e := HO1.out
      rw [List.take_length, List.drop_length] at e
      have e2 := HKK.out
      rw [List.take_length] at e2
      exact ⟨ret_int e2, by simpa using e, HGG.out⟩
theorem markClosureS_any (l : List FClosure) : MarkClosureS l := markClosureS_of l (fun x _ => by
  obtain ⟨z0, z1, z2, z3, z4⟩ := x
  exact markIntS_any z1)
end Go.Proofs.YtahgcojmpafefaaGreat
