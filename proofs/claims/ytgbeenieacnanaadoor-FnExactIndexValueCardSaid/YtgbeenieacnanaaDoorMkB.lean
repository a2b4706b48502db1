/-
  string, int, Key, Entry, Value: marking and finding the marks. Conditions: none.
-/
import Derived.Test.YtgbeenieacnanaaDoorDeepM
import Derived.Test.YtgbeenieacnanaaDoorDataB
namespace Go.Proofs.YtgbeenieacnanaaDoor
open Go.ChangeShapes Go.WideShapes Go.ChangeAt Go.RowKit Go.Deep Go.Joins
open Go.ChangeMaps (open_string shut_string)
set_option linter.unusedVariables false
set_option linter.unusedSimpArgs false
set_option maxRecDepth 100000
theorem FStr.flat_len (l : List FStr) : (FStr.flat l).length = l.length * 1 := by
  induction l with
  | nil => simp
  | cons x r ih =>
    have e : FStr.flat (x :: r) = x.c ++ FStr.flat r := List.flatMap_cons
    rw [e, List.length_append, ih, FStr.len, List.length_cons]
    omega
theorem FStr.flat_at (l : List FStr) (k : Nat) (x : FStr) (h : l[k]? = some x) : l.drop k = x :: l.drop (k + 1) := by
  have hk := (List.getElem?_eq_some_iff.1 h).1
  rw [List.drop_eq_getElem_cons hk, (List.getElem?_eq_some_iff.1 h).2]
theorem FStr.flat_take (l : List FStr) (k : Nat) (x : FStr) (h : l[k]? = some x) : FStr.flat (l.take (k + 1)) = FStr.flat (l.take k) ++ x.c := by
  rw [List.take_add_one, h]
  simp [FStr.flat]
theorem FStr.flat_split (l : List FStr) (k : Nat) (x : FStr) (h : l[k]? = some x) : FStr.flat l = FStr.flat (l.take k) ++ (x.c ++ FStr.flat (l.drop (k + 1))) := by
  have e : FStr.flat (l.take k ++ l.drop k) = FStr.flat (l.take k) ++ FStr.flat (l.drop k) := List.flatMap_append
  rw [List.take_append_drop] at e
  rw [e, FStr.flat_at l k x h]
  have e2 : FStr.flat (x :: l.drop (k + 1)) = x.c ++ FStr.flat (l.drop (k + 1)) := List.flatMap_cons
  rw [e2]
theorem FStr.cnt_at (l : List FStr) (k : Nat) (x : FStr) (h : l[k]? = some x) : cntL (FStr.flat (l.take k)) + cntL x.c ≤ cntL (FStr.flat l) := by
  rw [FStr.flat_split l k x h, cntL_append, cntL_append]
  omega
theorem FStr.cnt_eq (z0 : ByteArray) : cntL (FStr.c ⟨z0⟩) = 1 := by
  rw [FStr.c_eq]
  simp only [cntL, Cel.cnt]
  try omega
theorem cntb1_String (x : FStr) : cntL x.c ≤ 10 + 10 * x.wt := by
  obtain ⟨z0⟩ := x
  rw [FStr.cnt_eq, FStr.wt_eq]
  omega
theorem cntb_StringS : ∀ l : List FStr, cntL (FStr.flat l) ≤ 10 * (l.length + FStr.wts l)
  | [] => by simp [cntL]
  | x :: r => by
    have e : FStr.flat (x :: r) = x.c ++ FStr.flat r := List.flatMap_cons
    have h1 := cntb1_String x
    have h2 := cntb_StringS r
    rw [e, cntL_append, FStr.wts, List.length_cons]
    omega
theorem FInt.flat_len (l : List FInt) : (FInt.flat l).length = l.length * 1 := by
  induction l with
  | nil => simp
  | cons x r ih =>
    have e : FInt.flat (x :: r) = x.c ++ FInt.flat r := List.flatMap_cons
    rw [e, List.length_append, ih, FInt.len, List.length_cons]
    omega
theorem FInt.flat_at (l : List FInt) (k : Nat) (x : FInt) (h : l[k]? = some x) : l.drop k = x :: l.drop (k + 1) := by
  have hk := (List.getElem?_eq_some_iff.1 h).1
  rw [List.drop_eq_getElem_cons hk, (List.getElem?_eq_some_iff.1 h).2]
theorem FInt.flat_take (l : List FInt) (k : Nat) (x : FInt) (h : l[k]? = some x) : FInt.flat (l.take (k + 1)) = FInt.flat (l.take k) ++ x.c := by
  rw [List.take_add_one, h]
  simp [FInt.flat]
theorem FInt.flat_split (l : List FInt) (k : Nat) (x : FInt) (h : l[k]? = some x) : FInt.flat l = FInt.flat (l.take k) ++ (x.c ++ FInt.flat (l.drop (k + 1))) := by
  have e : FInt.flat (l.take k ++ l.drop k) = FInt.flat (l.take k) ++ FInt.flat (l.drop k) := List.flatMap_append
  rw [List.take_append_drop] at e
  rw [e, FInt.flat_at l k x h]
  have e2 : FInt.flat (x :: l.drop (k + 1)) = x.c ++ FInt.flat (l.drop (k + 1)) := List.flatMap_cons
  rw [e2]
theorem FInt.cnt_at (l : List FInt) (k : Nat) (x : FInt) (h : l[k]? = some x) : cntL (FInt.flat (l.take k)) + cntL x.c ≤ cntL (FInt.flat l) := by
  rw [FInt.flat_split l k x h, cntL_append, cntL_append]
  omega
theorem FInt.cnt_eq (z0 : Int) : cntL (FInt.c ⟨z0⟩) = 1 := by
  rw [FInt.c_eq]
  simp only [cntL, Cel.cnt]
  try omega
theorem cntb1_Int (x : FInt) : cntL x.c ≤ 10 + 10 * x.wt := by
  obtain ⟨z0⟩ := x
  rw [FInt.cnt_eq, FInt.wt_eq]
  omega
theorem cntb_IntS : ∀ l : List FInt, cntL (FInt.flat l) ≤ 10 * (l.length + FInt.wts l)
  | [] => by simp [cntL]
  | x :: r => by
    have e : FInt.flat (x :: r) = x.c ++ FInt.flat r := List.flatMap_cons
    have h1 := cntb1_Int x
    have h2 := cntb_IntS r
    rw [e, cntL_append, FInt.wts, List.length_cons]
    omega
theorem FKey.flat_len (l : List FKey) : (FKey.flat l).length = l.length * 3 := by
  induction l with
  | nil => simp
  | cons x r ih =>
    have e : FKey.flat (x :: r) = x.c ++ FKey.flat r := List.flatMap_cons
    rw [e, List.length_append, ih, FKey.len, List.length_cons]
    omega
theorem FKey.flat_at (l : List FKey) (k : Nat) (x : FKey) (h : l[k]? = some x) : l.drop k = x :: l.drop (k + 1) := by
  have hk := (List.getElem?_eq_some_iff.1 h).1
  rw [List.drop_eq_getElem_cons hk, (List.getElem?_eq_some_iff.1 h).2]
theorem FKey.flat_take (l : List FKey) (k : Nat) (x : FKey) (h : l[k]? = some x) : FKey.flat (l.take (k + 1)) = FKey.flat (l.take k) ++ x.c := by
  rw [List.take_add_one, h]
  simp [FKey.flat]
theorem FKey.flat_split (l : List FKey) (k : Nat) (x : FKey) (h : l[k]? = some x) : FKey.flat l = FKey.flat (l.take k) ++ (x.c ++ FKey.flat (l.drop (k + 1))) := by
  have e : FKey.flat (l.take k ++ l.drop k) = FKey.flat (l.take k) ++ FKey.flat (l.drop k) := List.flatMap_append
  rw [List.take_append_drop] at e
  rw [e, FKey.flat_at l k x h]
  have e2 : FKey.flat (x :: l.drop (k + 1)) = x.c ++ FKey.flat (l.drop (k + 1)) := List.flatMap_cons
  rw [e2]
theorem FKey.cnt_at (l : List FKey) (k : Nat) (x : FKey) (h : l[k]? = some x) : cntL (FKey.flat (l.take k)) + cntL x.c ≤ cntL (FKey.flat l) := by
  rw [FKey.flat_split l k x h, cntL_append, cntL_append]
  omega
theorem FKey.cnt_eq (z0 : Bool) (z1 : Int) (z2 : ByteArray) : cntL (FKey.c ⟨z0, z1, z2⟩) = 3 := by
  rw [FKey.c_eq]
  simp only [cntL, Cel.cnt]
  try omega
theorem cntb1_Key (x : FKey) : cntL x.c ≤ 10 + 10 * x.wt := by
  obtain ⟨z0, z1, z2⟩ := x
  rw [FKey.cnt_eq, FKey.wt_eq]
  omega
theorem cntb_KeyS : ∀ l : List FKey, cntL (FKey.flat l) ≤ 10 * (l.length + FKey.wts l)
  | [] => by simp [cntL]
  | x :: r => by
    have e : FKey.flat (x :: r) = x.c ++ FKey.flat r := List.flatMap_cons
    have h1 := cntb1_Key x
    have h2 := cntb_KeyS r
    rw [e, cntL_append, FKey.wts, List.length_cons]
    omega
theorem cntb_Key (x : FKey) : scnt x.c ≤ 10 * x.wt := by
  obtain ⟨z0, z1, z2⟩ := x
  rw [FKey.c_eq, FKey.wt_eq]
  simp only [scnt]
  omega
theorem FEntry.flat_len (l : List FEntry) : (FEntry.flat l).length = l.length * 8 := by
  induction l with
  | nil => simp
  | cons x r ih =>
    have e : FEntry.flat (x :: r) = x.c ++ FEntry.flat r := List.flatMap_cons
    rw [e, List.length_append, ih, FEntry.len, List.length_cons]
    omega
theorem FEntry.flat_at (l : List FEntry) (k : Nat) (x : FEntry) (h : l[k]? = some x) : l.drop k = x :: l.drop (k + 1) := by
  have hk := (List.getElem?_eq_some_iff.1 h).1
  rw [List.drop_eq_getElem_cons hk, (List.getElem?_eq_some_iff.1 h).2]
theorem FEntry.flat_take (l : List FEntry) (k : Nat) (x : FEntry) (h : l[k]? = some x) : FEntry.flat (l.take (k + 1)) = FEntry.flat (l.take k) ++ x.c := by
  rw [List.take_add_one, h]
  simp [FEntry.flat]
theorem FEntry.flat_split (l : List FEntry) (k : Nat) (x : FEntry) (h : l[k]? = some x) : FEntry.flat l = FEntry.flat (l.take k) ++ (x.c ++ FEntry.flat (l.drop (k + 1))) := by
  have e : FEntry.flat (l.take k ++ l.drop k) = FEntry.flat (l.take k) ++ FEntry.flat (l.drop k) := List.flatMap_append
  rw [List.take_append_drop] at e
  rw [e, FEntry.flat_at l k x h]
  have e2 : FEntry.flat (x :: l.drop (k + 1)) = x.c ++ FEntry.flat (l.drop (k + 1)) := List.flatMap_cons
  rw [e2]
theorem FEntry.cnt_at (l : List FEntry) (k : Nat) (x : FEntry) (h : l[k]? = some x) : cntL (FEntry.flat (l.take k)) + cntL x.c ≤ cntL (FEntry.flat l) := by
  rw [FEntry.flat_split l k x h, cntL_append, cntL_append]
  omega
theorem FEntry.cnt_eq (z0 : Bool) (z1 : Int) (z2 : ByteArray) (z3 : Int) (z4 : Int) (z5 : ByteArray) (z6 : Int) (z7 : List FEntry) : cntL (FEntry.c ⟨⟨z0, z1, z2⟩, ⟨z3, z4, z5, z6, z7⟩⟩) = 7 + cntL (FEntry.flat z7) := by
  rw [FEntry.c_eq]
  simp only [cntL, Cel.cnt]
  try omega
def MarkEntryS (l : List FEntry) : Prop := ∀ (u : Value) (k0 : Int) (F : List Nat) (w : World), 1 ≤ k0 → k0 + (cntL (FEntry.flat l) : Int) ≤ 1000000000000000 → F.Nodup → OwnC w (.s 73 8 l.length (FEntry.flat l)) F u → Calls Tryd.prog 30 #[u, .int .i64 k0] w fun e w' => e = .returned (.int .i64 (k0 + (cntL (FEntry.flat l) : Int))) ∧ OwnC w' (.s 73 8 l.length (mkL (FEntry.flat l) k0)) F u ∧ OnlyF F w w'
def HeldEntryS (l : List FEntry) : Prop := ∀ (u : Value) (k0 : Int) (w : World), 1 ≤ k0 → k0 + (cntL (FEntry.flat l) : Int) ≤ 1000000000000000 → RdC w w.heap.size (.s 73 8 l.length (mkL (FEntry.flat l) k0)) u → Calls Tryd.prog 31 #[u, .int .i64 k0] w fun e w' => e = .returned (.int .i64 (k0 + (cntL (FEntry.flat l) : Int))) ∧ Below w.heap.size w w'
def MkEntry : FEntry → Prop
  | ⟨⟨z0, z1, z2⟩, ⟨z3, z4, z5, z6, z7⟩⟩ => MarkEntryS z7
def HdEntry : FEntry → Prop
  | ⟨⟨z0, z1, z2⟩, ⟨z3, z4, z5, z6, z7⟩⟩ => HeldEntryS z7
theorem FValue.flat_len (l : List FValue) : (FValue.flat l).length = l.length * 5 := by
  induction l with
  | nil => simp
  | cons x r ih =>
    have e : FValue.flat (x :: r) = x.c ++ FValue.flat r := List.flatMap_cons
    rw [e, List.length_append, ih, FValue.len, List.length_cons]
    omega
theorem FValue.flat_at (l : List FValue) (k : Nat) (x : FValue) (h : l[k]? = some x) : l.drop k = x :: l.drop (k + 1) := by
  have hk := (List.getElem?_eq_some_iff.1 h).1
  rw [List.drop_eq_getElem_cons hk, (List.getElem?_eq_some_iff.1 h).2]
theorem FValue.flat_take (l : List FValue) (k : Nat) (x : FValue) (h : l[k]? = some x) : FValue.flat (l.take (k + 1)) = FValue.flat (l.take k) ++ x.c := by
  rw [List.take_add_one, h]
  simp [FValue.flat]
theorem FValue.flat_split (l : List FValue) (k : Nat) (x : FValue) (h : l[k]? = some x) : FValue.flat l = FValue.flat (l.take k) ++ (x.c ++ FValue.flat (l.drop (k + 1))) := by
  have e : FValue.flat (l.take k ++ l.drop k) = FValue.flat (l.take k) ++ FValue.flat (l.drop k) := List.flatMap_append
  rw [List.take_append_drop] at e
  rw [e, FValue.flat_at l k x h]
  have e2 : FValue.flat (x :: l.drop (k + 1)) = x.c ++ FValue.flat (l.drop (k + 1)) := List.flatMap_cons
  rw [e2]
theorem FValue.cnt_at (l : List FValue) (k : Nat) (x : FValue) (h : l[k]? = some x) : cntL (FValue.flat (l.take k)) + cntL x.c ≤ cntL (FValue.flat l) := by
  rw [FValue.flat_split l k x h, cntL_append, cntL_append]
  omega
theorem FValue.cnt_eq (z0 : Int) (z1 : Int) (z2 : ByteArray) (z3 : Int) (z4 : List FEntry) : cntL (FValue.c ⟨z0, z1, z2, z3, z4⟩) = 4 + cntL (FEntry.flat z4) := by
  rw [FValue.c_eq]
  simp only [cntL, Cel.cnt]
  try omega
def MkValue : FValue → Prop
  | ⟨z0, z1, z2, z3, z4⟩ => MarkEntryS z4
def HdValue : FValue → Prop
  | ⟨z0, z1, z2, z3, z4⟩ => HeldEntryS z4
mutual
theorem cntb1_Entry : ∀ x : FEntry, cntL x.c ≤ 10 + 10 * x.wt
  | .mk ⟨z0, z1, z2⟩ (.mk z3 z4 z5 z6 z7) => by
    have ih := cntb_EntryS z7
    rw [FEntry.cnt_eq, FEntry.wt_eq]
    have b7 := ih
    omega
theorem cntb_EntryS : ∀ l : List FEntry, cntL (FEntry.flat l) ≤ 10 * (l.length + FEntry.wts l)
  | [] => by simp [cntL]
  | x :: r => by
    have e : FEntry.flat (x :: r) = x.c ++ FEntry.flat r := List.flatMap_cons
    have h1 := cntb1_Entry x
    have h2 := cntb_EntryS r
    rw [e, cntL_append, FEntry.wts, List.length_cons]
    omega
end
theorem cntb1_Value (x : FValue) : cntL x.c ≤ 10 + 10 * x.wt := by
  obtain ⟨z0, z1, z2, z3, z4⟩ := x
  rw [FValue.cnt_eq, FValue.wt_eq]
  have b4 := cntb_EntryS z4
  omega
theorem cntb_ValueS : ∀ l : List FValue, cntL (FValue.flat l) ≤ 10 * (l.length + FValue.wts l)
  | [] => by simp [cntL]
  | x :: r => by
    have e : FValue.flat (x :: r) = x.c ++ FValue.flat r := List.flatMap_cons
    have h1 := cntb1_Value x
    have h2 := cntb_ValueS r
    rw [e, cntL_append, FValue.wts, List.length_cons]
    omega
theorem cntb_Entry (x : FEntry) : scnt x.c ≤ 10 * x.wt := by
  obtain ⟨⟨z0, z1, z2⟩, ⟨z3, z4, z5, z6, z7⟩⟩ := x
  rw [FEntry.c_eq, FEntry.wt_eq]
  simp only [scnt]
  have b7 := cntb_EntryS z7
  omega
theorem cntb_Value (x : FValue) : scnt x.c ≤ 10 * x.wt := by
  obtain ⟨z0, z1, z2, z3, z4⟩ := x
  rw [FValue.c_eq, FValue.wt_eq]
  simp only [scnt]
  have b4 := cntb_EntryS z4
  omega
set_option maxHeartbeats 2000000 in
theorem markEntryS_of (l : List FEntry) (he : ∀ x, x ∈ l → MkEntry x) : MarkEntryS l := by
  intro u k0 F w h1 h2 hF hO
  obtain ⟨A, c, rfl⟩ := hO.form
  have hcap := hO.read.cap
  have hn : l.length ≤ 9223372036854775807 := by unfold maxLen at hcap; omega
  have HO := Lib.hid hO
  clear hcap
  by_cases hl0 : l.length = 0
  · obtain rfl : l = [] := List.eq_nil_of_length_eq_zero hl0
    clear hO hl0 he
    go_enter Tryd.func30, Tryd.ntmps30
    go_wp2_with fail
    go_loop [1, 5] (fun kv i => kv = .int .i64 k0 ∧ i = .int .i64 0) (fun _ i => 0)
    case atStart => exact ⟨rfl, rfl⟩
    case round =>
      obtain ⟨rfl, rfl⟩ := hrel
      go_wp2_with fail
      go_ret
      exact ⟨ret_int (by simp [cntL]), by simpa [mkL] using HO.out, OnlyF.refl _ _⟩
  obtain ⟨g, hA, hg⟩ := hO.head (by omega)
  subst hA
  have HE := Lib.hid he
  clear he
  have HG := Lib.hid hg
  clear hO hg hl0
  go_enter Tryd.func30, Tryd.ntmps30
  go_wp2_with fail
  go_loopw [1, 5] (fun kv i wr => ∃ (k : Nat) (kk : Int), k ≤ l.length ∧ i = .int .i64 k ∧ kv = .int .i64 kk ∧ kk = k0 + (cntL (FEntry.flat (l.take k)) : Int) ∧ OwnC wr (.s 73 8 l.length (mkL (FEntry.flat (l.take k)) k0 ++ FEntry.flat (l.drop k))) F (.slice (some ⟨g, 0, none⟩) l.length c) ∧ OnlyF F w wr) (fun _ i _ => l.length - (intOf i).toNat)
  case atStart => exact ⟨0, k0, Nat.zero_le _, rfl, rfl, by simp [cntL], by simpa [mkL] using HO.out, OnlyF.refl _ _⟩
  case round =>
    obtain ⟨k, kk, hk, rfl, rfl, hkk, hO, hG⟩ := hrel
    have HKK := Lib.hid hkk
    have HO1 := Lib.hid hO
    have HGG := Lib.hid hG
    clear hO hG
    by_cases hlt : k < l.length
    · obtain ⟨x, hx⟩ : ∃ x, l[k]? = some x := ⟨_, List.getElem?_eq_getElem hlt⟩
      have HX := Lib.hid hx
      have hca := FEntry.cnt_at l k x hx
      have hD0 : (mkL (FEntry.flat (l.take k)) k0).length = k * 8 := by rw [mkL_len, FEntry.flat_len, List.length_take]; congr 1; omega
      have hO2 := HO1.out
      rw [FEntry.flat_at l k x hx] at hO2
      have hmx := HE.out x (List.mem_of_getElem? hx)
      obtain ⟨⟨z0, z1, z2⟩, ⟨z3, z4, z5, z6, z7⟩⟩ := x
      rw [show FEntry.flat (⟨⟨z0, z1, z2⟩, ⟨z3, z4, z5, z6, z7⟩⟩ :: l.drop (k + 1)) = (FEntry.c ⟨⟨z0, z1, z2⟩, ⟨z3, z4, z5, z6, z7⟩⟩) ++ FEntry.flat (l.drop (k + 1)) from List.flatMap_cons, FEntry.c_eq] at hO2
      rw [FEntry.cnt_eq] at hca
      have M7 : MarkEntryS z7 := hmx
      have HM7 := Lib.hid M7
      clear hmx M7
      obtain ⟨D, hDD⟩ : ∃ D, D = mkL (FEntry.flat (l.take k)) k0 := ⟨_, rfl⟩
      rw [← hDD] at hD0 hO2
      obtain ⟨R, hRR⟩ : ∃ R, R = FEntry.flat (l.drop (k + 1)) := ⟨_, rfl⟩
      rw [← hRR] at hO2
      have HD := Lib.hid hD0
      have HDD := Lib.hid hDD
      have HRR := Lib.hid hRR
      have hkp : 1 ≤ kk := by omega
      generalize hCC : cntL (FEntry.flat (l.take k)) = CC at *
      obtain ⟨N7, hN7⟩ : ∃ N : Nat, N = cntL (FEntry.flat z7) := ⟨_, rfl⟩
      rw [← hN7] at hca
      have hkb : kk + ((7 + N7 : Nat) : Int) ≤ 1000000000000000 := by omega
      have HN7 := Lib.hid hN7
      have HCC := Lib.hid hCC
      clear hx hD0 hDD hRR hkk hca hCC hN7
      obtain ⟨f0, hrow0, hnc0, hln0⟩ := hO2.row
      have hkc : k * 8 + 8 ≤ c * 8 := by have := Nat.mul_le_mul_right 8 (show k + 1 ≤ c by omega); rw [Nat.succ_mul] at this; exact this
      have q0 := hrow0.cell (i := k * 8) (by omega)
      have y0 := hrow0.frozen (k * 8)
      have q1 := hrow0.cell (i := k * 8 + 1) (by omega)
      have y1 := hrow0.frozen (k * 8 + 1)
      have q2 := hrow0.cell (i := k * 8 + 2) (by omega)
      have y2 := hrow0.frozen (k * 8 + 2)
      have q3 := hrow0.cell (i := k * 8 + 3) (by omega)
      have y3 := hrow0.frozen (k * 8 + 3)
      have q4 := hrow0.cell (i := k * 8 + 3 + 1) (by omega)
      have y4 := hrow0.frozen (k * 8 + 3 + 1)
      have q5 := hrow0.cell (i := k * 8 + 3 + 2) (by omega)
      have y5 := hrow0.frozen (k * 8 + 3 + 2)
      have q6 := hrow0.cell (i := k * 8 + 3 + 3) (by omega)
      have y6 := hrow0.frozen (k * 8 + 3 + 3)
      have q7 := hrow0.cell (i := k * 8 + 3 + 4) (by omega)
      have y7 := hrow0.frozen (k * 8 + 3 + 4)
      clear hrow0
      go_wp2_with fail
      clear hkc y0 y1 y2 y3 y4 y5 y6 y7 q0 q1 q2 q3 q4 q5 q6 q7
      have O0_0 := OwnC.setv (D := D) (y := .bool z0) (R := .v (.int .i64 z1) :: .v (.string z2) :: .v (.int .i64 z3) :: .v (.int .i64 z4) :: .v (.string z5) :: .v (.int .i64 z6) :: .s 73 8 z7.length (FEntry.flat z7) :: R) (by simp only [List.append_assoc, List.cons_append, List.nil_append] at hO2 ⊢; exact hO2) hF (.bool ((kk) % 3 == 0)) (k * 8) (by simp [HD.out])
      clear hO2
      have O0_1 := OwnC.setv (D := D ++ [.v (.bool ((kk) % 3 == 0))]) (y := .int .i64 z1) (R := .v (.string z2) :: .v (.int .i64 z3) :: .v (.int .i64 z4) :: .v (.string z5) :: .v (.int .i64 z6) :: .s 73 8 z7.length (FEntry.flat z7) :: R) (by simp only [List.append_assoc, List.cons_append, List.nil_append] at O0_0 ⊢; exact O0_0) hF (.int .i64 (kk + 1)) (k * 8 + 1) (by simp [HD.out])
      clear O0_0
      refine (markText_any _ _ (by omega)).mono ?_
      rintro e w2 ⟨rfl, hb1⟩
      have G1 := Lib.hid (OnlyF.of_below (OnlyF.set (OnlyF.set HGG.out (p := ⟨g, k * 8, none⟩) HG.out (.bool ((kk) % 3 == 0))) (p := ⟨g, k * 8 + 1, none⟩) HG.out (.int .i64 (kk + 1))) hb1)
      have P1 := O0_1.below hb1 (Nat.le_refl _)
      clear O0_1 hb1
      obtain ⟨f1, hrow1, hnc1, hln1⟩ := P1.row
      have hkc : k * 8 + 8 ≤ c * 8 := by have := Nat.mul_le_mul_right 8 (show k + 1 ≤ c by omega); rw [Nat.succ_mul] at this; exact this
      have q0 := hrow1.cell (i := k * 8) (by omega)
      have y0 := hrow1.frozen (k * 8)
      have q1 := hrow1.cell (i := k * 8 + 1) (by omega)
      have y1 := hrow1.frozen (k * 8 + 1)
      have q2 := hrow1.cell (i := k * 8 + 2) (by omega)
      have y2 := hrow1.frozen (k * 8 + 2)
      have q3 := hrow1.cell (i := k * 8 + 3) (by omega)
      have y3 := hrow1.frozen (k * 8 + 3)
      have q4 := hrow1.cell (i := k * 8 + 3 + 1) (by omega)
      have y4 := hrow1.frozen (k * 8 + 3 + 1)
      have q5 := hrow1.cell (i := k * 8 + 3 + 2) (by omega)
      have y5 := hrow1.frozen (k * 8 + 3 + 2)
      have q6 := hrow1.cell (i := k * 8 + 3 + 3) (by omega)
      have y6 := hrow1.frozen (k * 8 + 3 + 3)
      have q7 := hrow1.cell (i := k * 8 + 3 + 4) (by omega)
      have y7 := hrow1.frozen (k * 8 + 3 + 4)
      clear hrow1
      go_wp2_with fail
      clear hkc y0 y1 y2 y3 y4 y5 y6 y7 q0 q1 q2 q3 q4 q5 q6 q7
      have O1_2 := OwnC.setv (D := D ++ [.v (.bool ((kk) % 3 == 0)), .v (.int .i64 (kk + 1))]) (y := .string z2) (R := .v (.int .i64 z3) :: .v (.int .i64 z4) :: .v (.string z5) :: .v (.int .i64 z6) :: .s 73 8 z7.length (FEntry.flat z7) :: R) (by simp only [List.append_assoc, List.cons_append, List.nil_append] at P1 ⊢; exact P1) hF (.string (mt (kk + 1 + 1))) (k * 8 + 2) (by simp [HD.out])
      clear P1
      have O1_3 := OwnC.setv (D := D ++ [.v (.bool ((kk) % 3 == 0)), .v (.int .i64 (kk + 1)), .v (.string (mt (kk + 1 + 1)))]) (y := .int .i64 z3) (R := .v (.int .i64 z4) :: .v (.string z5) :: .v (.int .i64 z6) :: .s 73 8 z7.length (FEntry.flat z7) :: R) (by simp only [List.append_assoc, List.cons_append, List.nil_append] at O1_2 ⊢; exact O1_2) hF (.int .i64 (kk + 1 + 1 + 1)) (k * 8 + 3) (by simp [HD.out])
      clear O1_2
      have O1_4 := OwnC.setv (D := D ++ [.v (.bool ((kk) % 3 == 0)), .v (.int .i64 (kk + 1)), .v (.string (mt (kk + 1 + 1))), .v (.int .i64 (kk + 1 + 1 + 1))]) (y := .int .i64 z4) (R := .v (.string z5) :: .v (.int .i64 z6) :: .s 73 8 z7.length (FEntry.flat z7) :: R) (by simp only [List.append_assoc, List.cons_append, List.nil_append] at O1_3 ⊢; exact O1_3) hF (.int .i64 (kk + 1 + 1 + 1 + 1)) (k * 8 + 3 + 1) (by simp [HD.out])
      clear O1_3
      refine (markText_any _ _ (by omega)).mono ?_
      rintro e w3 ⟨rfl, hb2⟩
      have G2 := Lib.hid (OnlyF.of_below (OnlyF.set (OnlyF.set (OnlyF.set G1.out (p := ⟨g, k * 8 + 2, none⟩) HG.out (.string (mt (kk + 1 + 1)))) (p := ⟨g, k * 8 + 3, none⟩) HG.out (.int .i64 (kk + 1 + 1 + 1))) (p := ⟨g, k * 8 + 3 + 1, none⟩) HG.out (.int .i64 (kk + 1 + 1 + 1 + 1))) hb2)
      have P2 := O1_4.below hb2 (Nat.le_refl _)
      clear O1_4 hb2
      obtain ⟨f2, hrow2, hnc2, hln2⟩ := P2.row
      have hkc : k * 8 + 8 ≤ c * 8 := by have := Nat.mul_le_mul_right 8 (show k + 1 ≤ c by omega); rw [Nat.succ_mul] at this; exact this
      have q0 := hrow2.cell (i := k * 8) (by omega)
      have y0 := hrow2.frozen (k * 8)
      have q1 := hrow2.cell (i := k * 8 + 1) (by omega)
      have y1 := hrow2.frozen (k * 8 + 1)
      have q2 := hrow2.cell (i := k * 8 + 2) (by omega)
      have y2 := hrow2.frozen (k * 8 + 2)
      have q3 := hrow2.cell (i := k * 8 + 3) (by omega)
      have y3 := hrow2.frozen (k * 8 + 3)
      have q4 := hrow2.cell (i := k * 8 + 3 + 1) (by omega)
      have y4 := hrow2.frozen (k * 8 + 3 + 1)
      have q5 := hrow2.cell (i := k * 8 + 3 + 2) (by omega)
      have y5 := hrow2.frozen (k * 8 + 3 + 2)
      have q6 := hrow2.cell (i := k * 8 + 3 + 3) (by omega)
      have y6 := hrow2.frozen (k * 8 + 3 + 3)
      have q7 := hrow2.cell (i := k * 8 + 3 + 4) (by omega)
      have y7 := hrow2.frozen (k * 8 + 3 + 4)
      clear hrow2
      obtain ⟨g7_, a7, X7, hA7, hgF7, hc7, _, hx7, hsub7, hnd7, hgx7, hback7⟩ := OwnC.at_ (D := D ++ [.v (.bool ((kk) % 3 == 0)), .v (.int .i64 (kk + 1)), .v (.string (mt (kk + 1 + 1))), .v (.int .i64 (kk + 1 + 1 + 1)), .v (.int .i64 (kk + 1 + 1 + 1 + 1)), .v (.string z5), .v (.int .i64 z6)]) (x := .s 73 8 z7.length (FEntry.flat z7)) (R := R) (by simp only [List.append_assoc, List.cons_append, List.nil_append] at P2 ⊢; exact P2) hF
      obtain ⟨A7, c7, rfl⟩ := hx7.form
      simp only [Option.some.injEq, Addr.mk.injEq, and_true] at hA7
      subst hA7
      rw [show (D ++ [.v (.bool ((kk) % 3 == 0)), .v (.int .i64 (kk + 1)), .v (.string (mt (kk + 1 + 1))), .v (.int .i64 (kk + 1 + 1 + 1)), .v (.int .i64 (kk + 1 + 1 + 1 + 1)), .v (.string z5), .v (.int .i64 z6)] : List Cel).length = k * 8 + 3 + 4 from by simp [HD.out]] at hc7
      clear q7
      go_wp2_with fail
      have hcn := Lib.hid (show World.cell? ((w3.setCell ⟨g, k * 8 + 3 + 2, none⟩ (.string (mt (kk + 1 + 1 + 1 + 1 + 1)))).setCell ⟨g, k * 8 + 3 + 3, none⟩ (.int .i64 (kk + 1 + 1 + 1 + 1 + 1 + 1))) ⟨g, k * 8 + 3 + 4, none⟩ = some _ from (cell_set_other (by omega) (cell_set_other (by omega) hc7)))
      clear hkc y0 y1 y2 y3 y4 y5 y6 y7 q0 q1 q2 q3 q4 q5 q6 hc7 hx7 hsub7 hnd7 hgx7 hback7 hgF7
      have O2_5 := OwnC.setv (D := D ++ [.v (.bool ((kk) % 3 == 0)), .v (.int .i64 (kk + 1)), .v (.string (mt (kk + 1 + 1))), .v (.int .i64 (kk + 1 + 1 + 1)), .v (.int .i64 (kk + 1 + 1 + 1 + 1))]) (y := .string z5) (R := .v (.int .i64 z6) :: .s 73 8 z7.length (FEntry.flat z7) :: R) (by simp only [List.append_assoc, List.cons_append, List.nil_append] at P2 ⊢; exact P2) hF (.string (mt (kk + 1 + 1 + 1 + 1 + 1))) (k * 8 + 3 + 2) (by simp [HD.out])
      clear P2
      have O2_6 := OwnC.setv (D := D ++ [.v (.bool ((kk) % 3 == 0)), .v (.int .i64 (kk + 1)), .v (.string (mt (kk + 1 + 1))), .v (.int .i64 (kk + 1 + 1 + 1)), .v (.int .i64 (kk + 1 + 1 + 1 + 1)), .v (.string (mt (kk + 1 + 1 + 1 + 1 + 1)))]) (y := .int .i64 z6) (R := .s 73 8 z7.length (FEntry.flat z7) :: R) (by simp only [List.append_assoc, List.cons_append, List.nil_append] at O2_5 ⊢; exact O2_5) hF (.int .i64 (kk + 1 + 1 + 1 + 1 + 1 + 1)) (k * 8 + 3 + 3) (by simp [HD.out])
      clear O2_5
      obtain ⟨g_, b7, X, hA_, hgF, hc_, _, hx_, hsub, hnd, hgx, hback⟩ := OwnC.at_ (D := D ++ [.v (.bool ((kk) % 3 == 0)), .v (.int .i64 (kk + 1)), .v (.string (mt (kk + 1 + 1))), .v (.int .i64 (kk + 1 + 1 + 1)), .v (.int .i64 (kk + 1 + 1 + 1 + 1)), .v (.string (mt (kk + 1 + 1 + 1 + 1 + 1))), .v (.int .i64 (kk + 1 + 1 + 1 + 1 + 1 + 1))]) (x := .s 73 8 z7.length (FEntry.flat z7)) (R := R) (by simp only [List.append_assoc, List.cons_append, List.nil_append] at O2_6 ⊢; exact O2_6) hF
      simp only [Option.some.injEq, Addr.mk.injEq, and_true] at hA_
      subst hA_
      rw [show (D ++ [.v (.bool ((kk) % 3 == 0)), .v (.int .i64 (kk + 1)), .v (.string (mt (kk + 1 + 1))), .v (.int .i64 (kk + 1 + 1 + 1)), .v (.int .i64 (kk + 1 + 1 + 1 + 1)), .v (.string (mt (kk + 1 + 1 + 1 + 1 + 1))), .v (.int .i64 (kk + 1 + 1 + 1 + 1 + 1 + 1))] : List Cel).length = k * 8 + 3 + 4 from by simp [HD.out]] at hc_
      obtain rfl : .slice A7 z7.length c7 = b7 := Option.some.inj (hcn.out.symm.trans hc_)
      obtain ⟨k7_, hnk⟩ : ∃ k : Int, k = kk + 1 + 1 + 1 + 1 + 1 + 1 + 1 + (N7 : Int) := ⟨_, rfl⟩
      have hcall := HM7.out _ (kk + 1 + 1 + 1 + 1 + 1 + 1 + 1) X _ (by omega) (by rw [← HN7.out]; omega) hnd hx_
      rw [← HN7.out, ← hnk] at hcall
      have HNK7 := Lib.hid hnk
      have hkp7 : 1 ≤ k7_ := by omega
      have hkb7 : k7_ + ((0 : Nat) : Int) ≤ 1000000000000000 := by omega
      clear hnk hc_ hcn
      refine hcall.mono ?_
      clear hcall
      rintro e w4 ⟨rfl, own, hon⟩
      have P3 := hback w4 _ own (fun b hb hnb => hon.block b (OwnC.lt _ _ _ O2_6 b hb) hnb)
      have G3 := Lib.hid (OnlyF.call (OnlyF.set (OnlyF.set G2.out (p := ⟨g, k * 8 + 3 + 2, none⟩) HG.out (.string (mt (kk + 1 + 1 + 1 + 1 + 1)))) (p := ⟨g, k * 8 + 3 + 3, none⟩) HG.out (.int .i64 (kk + 1 + 1 + 1 + 1 + 1 + 1))) hon hsub)
      clear own hon hback hgx hnd hsub hx_ hgF O2_6
      go_wp2_with fail
      go_roundw
      case rel =>
        have hmk : mkL (FEntry.c ⟨⟨z0, z1, z2⟩, ⟨z3, z4, z5, z6, z7⟩⟩) kk = [.v (.bool ((kk) % 3 == 0)), .v (.int .i64 (kk + 1)), .v (.string (mt (kk + 1 + 1))), .v (.int .i64 (kk + 1 + 1 + 1)), .v (.int .i64 (kk + 1 + 1 + 1 + 1)), .v (.string (mt (kk + 1 + 1 + 1 + 1 + 1))), .v (.int .i64 (kk + 1 + 1 + 1 + 1 + 1 + 1)), .s 73 8 z7.length (mkL (FEntry.flat z7) (kk + 1 + 1 + 1 + 1 + 1 + 1 + 1))] := by
          rw [FEntry.c_eq]
          rw [mkL_v (kk + 1) (by omega)]
          rw [mkL_v (kk + 1 + 1) (by omega)]
          rw [mkL_v (kk + 1 + 1 + 1) (by omega)]
          rw [mkL_v (kk + 1 + 1 + 1 + 1) (by omega)]
          rw [mkL_v (kk + 1 + 1 + 1 + 1 + 1) (by omega)]
          rw [mkL_v (kk + 1 + 1 + 1 + 1 + 1 + 1) (by omega)]
          rw [mkL_v (kk + 1 + 1 + 1 + 1 + 1 + 1 + 1) (by omega)]
          rw [mkL_s (k7_) (by rw [← HN7.out]; exact HNK7.out)]
          rw [mkL_nil]
          rfl
        have hcn : cntL (FEntry.flat (l.take (k + 1))) = CC + (7 + N7) := by
          rw [FEntry.flat_take l k _ HX.out, cntL_append, HCC.out, FEntry.cnt_eq]
          rw [← HN7.out]; try omega
        have hall : mkL (FEntry.flat (l.take (k + 1))) k0 = D ++ [.v (.bool ((kk) % 3 == 0)), .v (.int .i64 (kk + 1)), .v (.string (mt (kk + 1 + 1))), .v (.int .i64 (kk + 1 + 1 + 1)), .v (.int .i64 (kk + 1 + 1 + 1 + 1)), .v (.string (mt (kk + 1 + 1 + 1 + 1 + 1))), .v (.int .i64 (kk + 1 + 1 + 1 + 1 + 1 + 1)), .s 73 8 z7.length (mkL (FEntry.flat z7) (kk + 1 + 1 + 1 + 1 + 1 + 1 + 1))] := by
          rw [FEntry.flat_take l k _ HX.out, mkL_append, HCC.out, ← HKK.out, ← HDD.out, hmk]
        refine ⟨k + 1, _, by omega, by go_num, rfl, ?_, ?_, G3.out⟩
        · rw [hcn]
          have := HKK.out
          have := HNK7.out; omega
        · rw [hall, ← HRR.out]
          simp only [List.append_assoc, List.cons_append, List.nil_append] at P3 ⊢
          exact P3
      case measure => simp [intOf]; omega
    · obtain rfl : k = l.length := by omega
      clear hlt
      go_wp2_with fail
      go_ret
      have e := HO1.out
      rw [List.take_length, List.drop_length] at e
      have e2 := HKK.out
      rw [List.take_length] at e2
      exact ⟨ret_int e2, by simpa using e, HGG.out⟩
set_option maxHeartbeats 2000000 in
theorem heldEntryS_of (l : List FEntry) (he : ∀ x, x ∈ l → HdEntry x) : HeldEntryS l := by
  intro u k0 w h1 h2 hR
  obtain ⟨A, c, rfl⟩ := hR.form
  have hcap := hR.cap
  have hn : l.length ≤ 9223372036854775807 := by unfold maxLen at hcap; omega
  have HR := Lib.hid hR
  have HE := Lib.hid he
  clear he
  clear hR hcap
  go_enter Tryd.func31, Tryd.ntmps31
  go_wp2_with fail
  go_loopw [1, 5] (fun kv i wr => ∃ (k : Nat) (kk : Int), k ≤ l.length ∧ i = .int .i64 k ∧ kv = .int .i64 kk ∧ kk = k0 + (cntL (FEntry.flat (l.take k)) : Int) ∧ Below w.heap.size w wr) (fun _ i _ => l.length - (intOf i).toNat)
  case atStart => exact ⟨0, k0, Nat.zero_le _, rfl, rfl, by simp [cntL], Below.refl _ _⟩
  case round =>
    obtain ⟨k, kk, hk, rfl, rfl, hkk, hb⟩ := hrel
    have HKK := Lib.hid hkk
    by_cases hlt : k < l.length
    · obtain ⟨x, hx⟩ : ∃ x, l[k]? = some x := ⟨_, List.getElem?_eq_getElem hlt⟩
      have HX := Lib.hid hx
      have hca := FEntry.cnt_at l k x hx
      obtain ⟨bc, offc, rfl, hblc, hcc⟩ := HR.out.cells (by omega)
      have hD0 : (mkL (FEntry.flat (l.take k)) k0).length = k * 8 := by rw [mkL_len, FEntry.flat_len, List.length_take]; congr 1; omega
      have hsp : mkL (FEntry.flat l) k0 = mkL (FEntry.flat (l.take k)) k0 ++ (mkL x.c kk ++ mkL (FEntry.flat (l.drop (k + 1))) (kk + (cntL x.c : Int))) := by
        rw [FEntry.flat_split l k x hx, mkL_append, mkL_append, ← hkk]
      have hmx := HE.out x (List.mem_of_getElem? hx)
      obtain ⟨⟨z0, z1, z2⟩, ⟨z3, z4, z5, z6, z7⟩⟩ := x
      rw [FEntry.cnt_eq] at hca
      have M7 : HeldEntryS z7 := hmx
      have HM7 := Lib.hid M7
      clear hmx M7
      obtain ⟨N7, hN7⟩ : ∃ N : Nat, N = cntL (FEntry.flat z7) := ⟨_, rfl⟩
      rw [← hN7] at hca
      obtain ⟨k7_, hnk7⟩ : ∃ k : Int, k = kk + 1 + 1 + 1 + 1 + 1 + 1 + 1 + (N7 : Int) := ⟨_, rfl⟩
      have hmk : mkL (FEntry.c ⟨⟨z0, z1, z2⟩, ⟨z3, z4, z5, z6, z7⟩⟩) kk = [.v (.bool ((kk) % 3 == 0)), .v (.int .i64 (kk + 1)), .v (.string (mt (kk + 1 + 1))), .v (.int .i64 (kk + 1 + 1 + 1)), .v (.int .i64 (kk + 1 + 1 + 1 + 1)), .v (.string (mt (kk + 1 + 1 + 1 + 1 + 1))), .v (.int .i64 (kk + 1 + 1 + 1 + 1 + 1 + 1)), .s 73 8 z7.length (mkL (FEntry.flat z7) (kk + 1 + 1 + 1 + 1 + 1 + 1 + 1))] := by
        rw [FEntry.c_eq]
        rw [mkL_v (kk + 1) (by omega)]
        rw [mkL_v (kk + 1 + 1) (by omega)]
        rw [mkL_v (kk + 1 + 1 + 1) (by omega)]
        rw [mkL_v (kk + 1 + 1 + 1 + 1) (by omega)]
        rw [mkL_v (kk + 1 + 1 + 1 + 1 + 1) (by omega)]
        rw [mkL_v (kk + 1 + 1 + 1 + 1 + 1 + 1) (by omega)]
        rw [mkL_v (kk + 1 + 1 + 1 + 1 + 1 + 1 + 1) (by omega)]
        rw [mkL_s (k7_) (by rw [← hN7]; exact hnk7)]
        rw [mkL_nil]
        rfl
      rw [hmk] at hsp
      obtain ⟨u0, e0, q0⟩ := hcc (k * 8 + 0) _ (by rw [hsp]; exact mid_get hD0 rfl)
      obtain rfl := q0.val
      clear q0
      have c_0 : wr.cell? ⟨bc, offc + k * 8, none⟩ = some (.bool ((kk) % 3 == 0)) := (hb.cell (p := ⟨bc, _, none⟩) hblc).trans (by simpa [Nat.add_assoc] using e0)
      obtain ⟨u1, e1, q1⟩ := hcc (k * 8 + 1) _ (by rw [hsp]; exact mid_get hD0 rfl)
      obtain rfl := q1.val
      clear q1
      have c_1 : wr.cell? ⟨bc, offc + k * 8 + 1, none⟩ = some (.int .i64 (kk + 1)) := (hb.cell (p := ⟨bc, _, none⟩) hblc).trans (by simpa [Nat.add_assoc] using e1)
      obtain ⟨u2, e2, q2⟩ := hcc (k * 8 + 2) _ (by rw [hsp]; exact mid_get hD0 rfl)
      obtain rfl := q2.val
      clear q2
      have c_2 : wr.cell? ⟨bc, offc + k * 8 + 2, none⟩ = some (.string (mt (kk + 1 + 1))) := (hb.cell (p := ⟨bc, _, none⟩) hblc).trans (by simpa [Nat.add_assoc] using e2)
      obtain ⟨u3, e3, q3⟩ := hcc (k * 8 + 3) _ (by rw [hsp]; exact mid_get hD0 rfl)
      obtain rfl := q3.val
      clear q3
      have c_3 : wr.cell? ⟨bc, offc + k * 8 + 3, none⟩ = some (.int .i64 (kk + 1 + 1 + 1)) := (hb.cell (p := ⟨bc, _, none⟩) hblc).trans (by simpa [Nat.add_assoc] using e3)
      obtain ⟨u4, e4, q4⟩ := hcc (k * 8 + 4) _ (by rw [hsp]; exact mid_get hD0 rfl)
      obtain rfl := q4.val
      clear q4
      have c_4 : wr.cell? ⟨bc, offc + k * 8 + 3 + 1, none⟩ = some (.int .i64 (kk + 1 + 1 + 1 + 1)) := (hb.cell (p := ⟨bc, _, none⟩) hblc).trans (by simpa [Nat.add_assoc] using e4)
      obtain ⟨u5, e5, q5⟩ := hcc (k * 8 + 5) _ (by rw [hsp]; exact mid_get hD0 rfl)
      obtain rfl := q5.val
      clear q5
      have c_5 : wr.cell? ⟨bc, offc + k * 8 + 3 + 2, none⟩ = some (.string (mt (kk + 1 + 1 + 1 + 1 + 1))) := (hb.cell (p := ⟨bc, _, none⟩) hblc).trans (by simpa [Nat.add_assoc] using e5)
      obtain ⟨u6, e6, q6⟩ := hcc (k * 8 + 6) _ (by rw [hsp]; exact mid_get hD0 rfl)
      obtain rfl := q6.val
      clear q6
      have c_6 : wr.cell? ⟨bc, offc + k * 8 + 3 + 3, none⟩ = some (.int .i64 (kk + 1 + 1 + 1 + 1 + 1 + 1)) := (hb.cell (p := ⟨bc, _, none⟩) hblc).trans (by simpa [Nat.add_assoc] using e6)
      obtain ⟨u7, e7, q7⟩ := hcc (k * 8 + 7) _ (by rw [hsp]; exact mid_get hD0 rfl)
      obtain ⟨A7, c7, rfl⟩ := q7.form
      have Q7 := Lib.hid q7
      clear q7
      have c_7 : wr.cell? ⟨bc, offc + k * 8 + 3 + 4, none⟩ = some (.slice A7 z7.length c7) := (hb.cell (p := ⟨bc, _, none⟩) hblc).trans (by simpa [Nat.add_assoc] using e7)
      have hkp : 1 ≤ kk := by omega
      have hkp7 : 1 ≤ k7_ := by omega
      have hkb : kk + ((7 + N7 : Nat) : Int) ≤ 1000000000000000 := by omega
      have hkb7 : k7_ + ((0 : Nat) : Int) ≤ 1000000000000000 := by omega
      have hnn7 : 0 ≤ k7_ := by omega
      have HNK7 := Lib.hid hnk7
      have HN7 := Lib.hid hN7
      clear hcc hsp hD0 hmk hx hca hkk e0 e1 e2 e3 e4 e5 e6 e7 hnk7 hN7
      have hzb := hb.size
      go_wp2_with fail
      go_region_held3 (fun w_ => w_.cell? ⟨bc, offc + k * 8 + 2, none⟩ = some (.string (mt (kk + 1 + 1)))) (first | exact c_2 | exact ((bcell hc1).1 _ _ (by simp; omega)).trans c_2) ((first | (go_at_call 50; refine (markText_any _ _ (by omega)).mono ?_; rintro e w2 ⟨rfl, hc1⟩)))
      have B1 : Below w.heap.size w w2 := hb.trans (((Below.refl _ _).drew : Below w.heap.size wr wr.drew).trans (hc1.mono (by simp; omega)))
      have d1_3 := ((bcell hc1).1 bc (offc + k * 8 + 3) (by simp; omega)).trans c_3
      have d1_4 := ((bcell hc1).1 bc (offc + k * 8 + 3 + 1) (by simp; omega)).trans c_4
      have d1_5 := ((bcell hc1).1 bc (offc + k * 8 + 3 + 2) (by simp; omega)).trans c_5
      have d1_6 := ((bcell hc1).1 bc (offc + k * 8 + 3 + 3) (by simp; omega)).trans c_6
      have d1_7 := ((bcell hc1).1 bc (offc + k * 8 + 3 + 4) (by simp; omega)).trans c_7
      have hz1 := hc1.size
      simp at hz1
      have hy1 : w.heap.size ≤ w2.heap.size := B1.size
      clear hc1
      go_wp2_with fail
      go_region_held3 (fun w_ => w_.cell? ⟨bc, offc + k * 8 + 3 + 2, none⟩ = some (.string (mt (kk + 1 + 1 + 1 + 1 + 1)))) (first | exact d1_5 | exact ((bcell hc2).1 _ _ (by simp; omega)).trans d1_5) ((first | (go_at_call 50; refine (markText_any _ _ (by omega)).mono ?_; rintro e w3 ⟨rfl, hc2⟩)))
      have B2 : Below w.heap.size w w3 := B1.trans (((Below.refl _ _).drew : Below w.heap.size w2 w2.drew).trans (hc2.mono (by simp; omega)))
      have d2_6 := ((bcell hc2).1 bc (offc + k * 8 + 3 + 3) (by simp; omega)).trans d1_6
      have d2_7 := ((bcell hc2).1 bc (offc + k * 8 + 3 + 4) (by simp; omega)).trans d1_7
      have hz2 := hc2.size
      simp at hz2
      have hy2 : w.heap.size ≤ w3.heap.size := B2.size
      clear hc2
      go_wp2_with fail
      refine calls_worldD _ (fun X => X.cell? ⟨bc, offc + k * 8 + 3 + 4, none⟩ = some (.slice A7 z7.length c7) ∧ Below w.heap.size w X) ⟨by first | exact d2_7 | (simp; exact d2_7), by first | exact B2 | exact B2.drew⟩ ?_
      rintro Z3 ⟨m3_7, BZ3⟩
      have hy3_ : w.heap.size ≤ Z3.heap.size := BZ3.size
      have hcall := HM7.out _ (kk + 1 + 1 + 1 + 1 + 1 + 1 + 1) Z3 (by omega) (by rw [← HN7.out]; omega) (Q7.out.on BZ3 (Nat.le_refl _) BZ3.size)
      rw [← HN7.out, ← HNK7.out] at hcall
      refine hcall.mono ?_
      clear hcall
      rintro e w4 ⟨rfl, hc3⟩
      have B3 : Below w.heap.size w w4 := BZ3.trans (hc3.mono (by omega))
      have hy3 : w.heap.size ≤ w4.heap.size := B3.size
      clear hc3 m3_7
      go_wp2_with fail
      go_roundw
      case rel =>
        have hcn : cntL (FEntry.flat (l.take (k + 1))) = cntL (FEntry.flat (l.take k)) + (7 + N7) := by
          rw [FEntry.flat_take l k _ HX.out, cntL_append, FEntry.cnt_eq]
          rw [← HN7.out]; try omega
        refine ⟨k + 1, _, by omega, by go_num, rfl, ?_, B3⟩
        rw [hcn]
        have := HKK.out
        have := HNK7.out; omega
      case measure => simp [intOf]; omega
    · obtain rfl : k = l.length := by omega
      clear hlt
      go_wp2_with fail
      go_ret
      have e2 := HKK.out
      rw [List.take_length] at e2
      exact ⟨ret_int e2, hb⟩
mutual
theorem MkEntry_any : ∀ x : FEntry, MkEntry x
  | .mk ⟨z0, z1, z2⟩ (.mk z3 z4 z5 z6 z7) => by
    have := MkEntry_all z7
    exact markEntryS_of z7 this
theorem MkEntry_all : ∀ (l : List FEntry) (x : FEntry), x ∈ l → MkEntry x
  | [], x, hx => by cases hx
  | y :: r, x, hx => by
    rcases List.mem_cons.1 hx with e | hx
    · rw [e]
      exact MkEntry_any y
    · exact MkEntry_all r x hx
end
theorem markEntryS_any (l : List FEntry) : MarkEntryS l := markEntryS_of l (MkEntry_all l)
mutual
theorem HdEntry_any : ∀ x : FEntry, HdEntry x
  | .mk ⟨z0, z1, z2⟩ (.mk z3 z4 z5 z6 z7) => by
    have := HdEntry_all z7
    exact heldEntryS_of z7 this
theorem HdEntry_all : ∀ (l : List FEntry) (x : FEntry), x ∈ l → HdEntry x
  | [], x, hx => by cases hx
  | y :: r, x, hx => by
    rcases List.mem_cons.1 hx with e | hx
    · rw [e]
      exact HdEntry_any y
    · exact HdEntry_all r x hx
end
theorem heldEntryS_any (l : List FEntry) : HeldEntryS l := heldEntryS_of l (HdEntry_all l)
theorem markEntryS_I (l : List FEntry) (u : Value) (k0 : Int) (lo hi : Nat) (w : World) (h1 : 1 ≤ k0) (h2 : k0 + (cntL (FEntry.flat l) : Int) ≤ 1000000000000000) (h : OwnI w lo hi [.s 73 8 l.length (FEntry.flat l)] [u]) :
    Calls Tryd.prog 30 #[u, .int .i64 k0] w fun e w' => e = .returned (.int .i64 (k0 + (cntL (FEntry.flat l) : Int))) ∧ OwnI w' lo hi [.s 73 8 l.length (mkL (FEntry.flat l) k0)] [u] ∧ Only lo hi w.heap.size w w' := by
  obtain ⟨F, a1, a2, a3⟩ := h
  exact (markEntryS_any l u k0 F w h1 h2 a2 a1.unone).mono fun e w' ⟨h3, h4, h5⟩ => ⟨h3, own_interval a2 a3 (OwnL.one h4) h5⟩
def MarkValue (x : FValue) : Prop := ∀ (us : List Value) (k0 : Int) (F : List Nat) (w : World), 1 ≤ k0 → k0 + (scnt x.c : Int) ≤ 1000000000000000 → F.Nodup → OwnL w x.c F us → Calls Tryd.prog 10 #[.agg us.toArray, .int .i64 k0] w fun e w' => e = .returned (.int .i64 (k0 + (scnt x.c : Int))) ∧ OwnL w' (smk x.c k0) F us ∧ OnlyF F w w'
def HeldValue (x : FValue) : Prop := ∀ (us : List Value) (k0 : Int) (w : World), 1 ≤ k0 → k0 + (scnt x.c : Int) ≤ 1000000000000000 → RdVs w w.heap.size (smk x.c k0) us → Calls Tryd.prog 11 #[.agg us.toArray, .int .i64 k0] w fun e w' => e = .returned (.int .i64 (k0 + (scnt x.c : Int))) ∧ Below w.heap.size w w'
set_option maxHeartbeats 1000000 in
theorem markValue_of (z0 : Int) (z1 : Int) (z2 : ByteArray) (z3 : Int) (z4 : List FEntry) (h4 : MarkEntryS z4) : MarkValue ⟨z0, z1, z2, z3, z4⟩ := by
  intro us k0 F w hq1_ hq2_ hF hO
  obtain ⟨N4, hN4⟩ : ∃ N : Nat, N = cntL (FEntry.flat z4) := ⟨_, rfl⟩
  have hsc : scnt (FValue.c ⟨z0, z1, z2, z3, z4⟩) = N4 := by
    rw [FValue.c_eq]
    simp only [scnt]
    omega
  rw [hsc] at hq2_ ⊢
  obtain ⟨k4_, hk4⟩ : ∃ k : Int, k = k0 + (N4 : Int) := ⟨_, rfl⟩
  have hsm : smk (FValue.c ⟨z0, z1, z2, z3, z4⟩) k0 = [.v (.int .i64 z0), .v (.int .i64 z1), .v (.string z2), .v (.int .i64 z3), .s 73 8 z4.length (mkL (FEntry.flat z4) (k0))] := by
    rw [FValue.c_eq]
    rw [smk_v]
    rw [smk_v]
    rw [smk_v]
    rw [smk_v]
    rw [smk_s k4_ (by rw [← hN4]; exact hk4)]
    rfl
  rw [hsm]
  have hfin : k0 + ((N4 : Nat) : Int) = k4_ := by omega
  rw [hfin]
  rw [FValue.c_eq] at hO
  have hr := hO.vs
  obtain ⟨us0, rfl, hr_0⟩ := hr.unv
  obtain ⟨us1, rfl, hr_1⟩ := hr_0.unv
  obtain ⟨us2, rfl, hr_2⟩ := hr_1.unv
  obtain ⟨us3, rfl, hr_3⟩ := hr_2.unv
  obtain ⟨A4, c4, us4, rfl, r4, hr_4⟩ := hr_3.uns
  obtain rfl := hr_4.un0
  clear hsc hsm hr hr_0 hr_1 hr_2 hr_3 hr_4 r4
  have hp4 : 1 ≤ k4_ := by omega
  have H4 := Lib.hid h4
  clear h4
  have hb4 : k4_ + ((0 : Nat) : Int) ≤ 1000000000000000 := by omega
  have HN4 := Lib.hid hN4
  have HK4 := Lib.hid hk4
  clear hN4 hk4
  clear hfin
  have HO := Lib.hid hO
  clear hO
  go_enter Tryd.func10, Tryd.ntmps10
  go_wp2_with fail
  refine calls_worldD _ (fun X => Blk X w.heap.size 28 #[.int .i64 z0, .int .i64 z1, .string z2, .int .i64 z3, .slice A4 z4.length c4] ∧ OwnL X [.v (.int .i64 z0), .v (.int .i64 z1), .v (.string z2), .v (.int .i64 z3), .s 73 8 z4.length (FEntry.flat z4)] F [.int .i64 z0, .int .i64 z1, .string z2, .int .i64 z3, .slice A4 z4.length c4] ∧ OnlyF F w X ∧ w.heap.size < X.heap.size) ⟨Blk.new w _ _, OwnL.keep _ _ _ HO.out fun g hg => Below.heap_alloc _ _ _ (OwnL.lt _ _ _ HO.out g hg), (OnlyF.refl _ _).alloc _, by simp⟩ ?_
  rintro X0 ⟨ba, hO, hG, hs⟩
  obtain ⟨Fm, hm, hsub, hnd, hback⟩ := OwnL.sub (D := [.v (.int .i64 z0), .v (.int .i64 z1), .v (.string z2), .v (.int .i64 z3)]) (M := [.s 73 8 z4.length (FEntry.flat z4)]) (R := []) (u1 := [.int .i64 z0, .int .i64 z1, .string z2, .int .i64 z3]) (um := [.slice A4 z4.length c4]) (u3 := []) hO hF rfl rfl
  have hcall := H4.out _ (k0) Fm X0 (by omega) (by rw [← HN4.out]; omega) hnd hm.unone
  rw [← HN4.out, ← HK4.out] at hcall
  refine hcall.mono ?_
  clear hcall
  rintro e Y0 ⟨rfl, own, hon⟩
  have hlt := OwnL.lt _ _ _ hO
  have hFl : w.heap.size ∉ F := fun e => by have := OwnL.lt _ _ _ HO.out _ e; omega
  replace hO := hback Y0 [.s 73 8 z4.length (mkL (FEntry.flat z4) (k0))] (OwnL.one own) (fun b hb hnb => hon.block b (hlt b hb) hnb)
  replace ba : Blk Y0 w.heap.size 28 #[.int .i64 z0, .int .i64 z1, .string z2, .int .i64 z3, .slice A4 z4.length c4] := (hon.block _ ba.lt (fun e => hFl (hsub _ e))).trans ba
  replace hG := OnlyF.call hG hon hsub
  replace hs : w.heap.size < Y0.heap.size := Nat.lt_of_lt_of_le hs hon.size
  clear own hon hm hsub hnd hback hlt hFl
  have ba_l := ba.lt
  go_wp2_with fail
  go_ret
  exact ⟨rfl, hO, hG⟩
set_option maxHeartbeats 1000000 in
theorem heldValue_of (z0 : Int) (z1 : Int) (z2 : ByteArray) (z3 : Int) (z4 : List FEntry) (h4 : HeldEntryS z4) : HeldValue ⟨z0, z1, z2, z3, z4⟩ := by
  intro us k0 w hq1_ hq2_ hr
  obtain ⟨N4, hN4⟩ : ∃ N : Nat, N = cntL (FEntry.flat z4) := ⟨_, rfl⟩
  have hsc : scnt (FValue.c ⟨z0, z1, z2, z3, z4⟩) = N4 := by
    rw [FValue.c_eq]
    simp only [scnt]
    omega
  rw [hsc] at hq2_ ⊢
  obtain ⟨k4_, hk4⟩ : ∃ k : Int, k = k0 + (N4 : Int) := ⟨_, rfl⟩
  have hsm : smk (FValue.c ⟨z0, z1, z2, z3, z4⟩) k0 = [.v (.int .i64 z0), .v (.int .i64 z1), .v (.string z2), .v (.int .i64 z3), .s 73 8 z4.length (mkL (FEntry.flat z4) (k0))] := by
    rw [FValue.c_eq]
    rw [smk_v]
    rw [smk_v]
    rw [smk_v]
    rw [smk_v]
    rw [smk_s k4_ (by rw [← hN4]; exact hk4)]
    rfl
  rw [hsm] at hr
  have hfin : k0 + ((N4 : Nat) : Int) = k4_ := by omega
  rw [hfin]
  obtain ⟨us0, rfl, hr_0⟩ := hr.unv
  obtain ⟨us1, rfl, hr_1⟩ := hr_0.unv
  obtain ⟨us2, rfl, hr_2⟩ := hr_1.unv
  obtain ⟨us3, rfl, hr_3⟩ := hr_2.unv
  obtain ⟨A4, c4, us4, rfl, r4, hr_4⟩ := hr_3.uns
  obtain rfl := hr_4.un0
  clear hsc hsm hr hr_0 hr_1 hr_2 hr_3 hr_4
  have R4 := Lib.hid r4
  clear r4
  have hp4 : 1 ≤ k4_ := by omega
  have hnn4 : 0 ≤ k4_ := by omega
  have H4 := Lib.hid h4
  clear h4
  have hb4 : k4_ + ((0 : Nat) : Int) ≤ 1000000000000000 := by omega
  have HN4 := Lib.hid hN4
  have HK4 := Lib.hid hk4
  clear hN4 hk4
  clear hfin
  go_enter Tryd.func11, Tryd.ntmps11
  go_wp2_with fail
  refine calls_worldD _ (fun X => Blk X w.heap.size 28 #[.int .i64 z0, .int .i64 z1, .string z2, .int .i64 z3, .slice A4 z4.length c4] ∧ Below w.heap.size w X) ⟨Blk.new w _ _, (Below.refl _ _).alloc (Nat.le_refl _) _⟩ ?_
  rintro X0 ⟨ba, hB⟩
  have s0 := ba.lt
  have hcall := H4.out _ (k0) X0 (by omega) (by rw [← HN4.out]; omega) (R4.out.on hB (Nat.le_refl _) (by omega))
  rw [← HN4.out, ← HK4.out] at hcall
  refine hcall.mono ?_
  clear hcall
  rintro e Y0 ⟨rfl, hb⟩
  replace ba := ba.below hb (Nat.le_refl _)
  replace hB := hB.trans (hb.mono (by omega))
  clear hb
  have ba_l := ba.lt
  go_wp2_with fail
  go_ret
  exact ⟨rfl, hB⟩
theorem markValue_any (x : FValue) : MarkValue x := by
  obtain ⟨z0, z1, z2, z3, z4⟩ := x
  exact markValue_of z0 z1 z2 z3 z4 (markEntryS_any z4)
theorem markValue_I (x : FValue) (us : List Value) (k0 : Int) (lo hi : Nat) (w : World) (h1 : 1 ≤ k0) (h2 : k0 + (scnt x.c : Int) ≤ 1000000000000000) (h : OwnI w lo hi x.c us) :
    Calls Tryd.prog 10 #[.agg us.toArray, .int .i64 k0] w fun e w' => e = .returned (.int .i64 (k0 + (scnt x.c : Int))) ∧ OwnI w' lo hi (smk x.c k0) us ∧ Only lo hi w.heap.size w w' := by
  obtain ⟨F, a1, a2, a3⟩ := h
  exact (markValue_any x us k0 F w h1 h2 a2 a1).mono fun e w' ⟨h3, h4, h5⟩ => ⟨h3, own_interval a2 a3 h4 h5⟩
theorem heldValue_any (x : FValue) : HeldValue x := by
  obtain ⟨z0, z1, z2, z3, z4⟩ := x
  exact heldValue_of z0 z1 z2 z3 z4 (heldEntryS_any z4)
end Go.Proofs.YtgbeenieacnanaaDoor
