/-
  string, int, Ins, Param, Func: marking and finding the marks. Conditions: none.
-/
import Derived.Test.YthkmfdjkldipjaaDeepM
import Derived.Test.YthkmfdjkldipjaaDataQ
namespace Go.Proofs.Ythkmfdjkldipjaa
open Go.ChangeShapes Go.WideShapes Go.ChangeAt Go.RowKit Go.Deep Go.Joins
open Go.ChangeMaps (open_string shut_string)
set_option linter.unusedVariables false
set_option linter.unusedSimpArgs false
set_option maxRecDepth 100000
theorem FStr.flat_len (l : List FStr) : (FStr.flat l).length = l.length * 1 := by
  induction l with
  | nil => simp
  | cons x r ih =>
    have e : FStr.flat (x :: r) = x.c ++ FStr.flat r := List.flatMap_cons
    rw [e, List.length_append, ih, FStr.len, List.length_cons]
    omega
theorem FStr.flat_at (l : List FStr) (k : Nat) (x : FStr) (h : l[k]? = some x) : l.drop k = x :: l.drop (k + 1) := by
  have hk := (List.getElem?_eq_some_iff.1 h).1
  rw [List.drop_eq_getElem_cons hk, (List.getElem?_eq_some_iff.1 h).2]
theorem FStr.flat_take (l : List FStr) (k : Nat) (x : FStr) (h : l[k]? = some x) : FStr.flat (l.take (k + 1)) = FStr.flat (l.take k) ++ x.c := by
  rw [List.take_add_one, h]
  simp [FStr.flat]
theorem FStr.flat_split (l : List FStr) (k : Nat) (x : FStr) (h : l[k]? = some x) : FStr.flat l = FStr.flat (l.take k) ++ (x.c ++ FStr.flat (l.drop (k + 1))) := by
  have e : FStr.flat (l.take k ++ l.drop k) = FStr.flat (l.take k) ++ FStr.flat (l.drop k) := List.flatMap_append
  rw [List.take_append_drop] at e
  rw [e, FStr.flat_at l k x h]
  have e2 : FStr.flat (x :: l.drop (k + 1)) = x.c ++ FStr.flat (l.drop (k + 1)) := List.flatMap_cons
  rw [e2]
theorem FStr.cnt_at (l : List FStr) (k : Nat) (x : FStr) (h : l[k]? = some x) : cntL (FStr.flat (l.take k)) + cntL x.c ≤ cntL (FStr.flat l) := by
  rw [FStr.flat_split l k x h, cntL_append, cntL_append]
  omega
theorem FStr.cnt_eq (z0 : ByteArray) : cntL (FStr.c ⟨z0⟩) = 1 := by
  rw [FStr.c_eq]
  simp only [cntL, Cel.cnt]
  try omega
def MarkStringS (l : List FStr) : Prop := ∀ (u : Value) (k0 : Int) (F : List Nat) (w : World), 1 ≤ k0 → k0 + (cntL (FStr.flat l) : Int) ≤ 1000000000000 → F.Nodup → OwnC w (.s 9 1 l.length (FStr.flat l)) F u → Calls Try.prog 50 #[u, .int .i64 k0] w fun e w' => e = .returned (.int .i64 (k0 + (cntL (FStr.flat l) : Int))) ∧ OwnC w' (.s 9 1 l.length (mkL (FStr.flat l) k0)) F u ∧ OnlyF F w w'
theorem cntb1_String (x : FStr) : cntL x.c ≤ 10 + 10 * x.wt := by
  obtain ⟨z0⟩ := x
  rw [FStr.cnt_eq, FStr.wt_eq]
  omega
theorem cntb_StringS : ∀ l : List FStr, cntL (FStr.flat l) ≤ 10 * (l.length + FStr.wts l)
  | [] => by simp [cntL]
  | x :: r => by
    have e : FStr.flat (x :: r) = x.c ++ FStr.flat r := List.flatMap_cons
    have h1 := cntb1_String x
    have h2 := cntb_StringS r
    rw [e, cntL_append, FStr.wts, List.length_cons]
    omega
set_option maxHeartbeats 2000000 in
theorem markStringS_of (l : List FStr) : MarkStringS l := by
  intro u k0 F w h1 h2 hF hO
  obtain ⟨A, c, rfl⟩ := hO.form
  have hcap := hO.read.cap
  have hn : l.length ≤ 9223372036854775807 := by unfold maxLen at hcap; omega
  have HO := Lib.hid hO
  clear hcap
  by_cases hl0 : l.length = 0
  · obtain rfl : l = [] := List.eq_nil_of_length_eq_zero hl0
    clear hO hl0
    go_enter Try.func50, Try.ntmps50
    go_wp2_with fail
    go_loop [1, 5] (fun kv i => kv = .int .i64 k0 ∧ i = .int .i64 0) (fun _ i => 0)
    case atStart => exact ⟨rfl, rfl⟩
    case round =>
      obtain ⟨rfl, rfl⟩ := hrel
      go_wp2_with fail
      go_ret
      exact ⟨ret_int (by simp [cntL]), by simpa [mkL] using HO.out, OnlyF.refl _ _⟩
  obtain ⟨g, hA, hg⟩ := hO.head (by omega)
  subst hA
  have HG := Lib.hid hg
  clear hO hg hl0
  go_enter Try.func50, Try.ntmps50
  go_wp2_with fail
  go_loopw [1, 5] (fun kv i wr => ∃ (k : Nat) (kk : Int), k ≤ l.length ∧ i = .int .i64 k ∧ kv = .int .i64 kk ∧ kk = k0 + (cntL (FStr.flat (l.take k)) : Int) ∧ OwnC wr (.s 9 1 l.length (mkL (FStr.flat (l.take k)) k0 ++ FStr.flat (l.drop k))) F (.slice (some ⟨g, 0, none⟩) l.length c) ∧ OnlyF F w wr) (fun _ i _ => l.length - (intOf i).toNat)
  case atStart => exact ⟨0, k0, Nat.zero_le _, rfl, rfl, by simp [cntL], by simpa [mkL] using HO.out, OnlyF.refl _ _⟩
  case round =>
    obtain ⟨k, kk, hk, rfl, rfl, hkk, hO, hG⟩ := hrel
    have HKK := Lib.hid hkk
    have HO1 := Lib.hid hO
    have HGG := Lib.hid hG
    clear hO hG
    by_cases hlt : k < l.length
    · obtain ⟨x, hx⟩ : ∃ x, l[k]? = some x := ⟨_, List.getElem?_eq_getElem hlt⟩
      have HX := Lib.hid hx
      have hca := FStr.cnt_at l k x hx
      have hD0 : (mkL (FStr.flat (l.take k)) k0).length = k * 1 := by rw [mkL_len, FStr.flat_len, List.length_take]; congr 1; omega
      have hO2 := HO1.out
      rw [FStr.flat_at l k x hx] at hO2
      obtain ⟨z0⟩ := x
      rw [show FStr.flat (⟨z0⟩ :: l.drop (k + 1)) = (FStr.c ⟨z0⟩) ++ FStr.flat (l.drop (k + 1)) from List.flatMap_cons, FStr.c_eq] at hO2
      rw [FStr.cnt_eq] at hca
      obtain ⟨D, hDD⟩ : ∃ D, D = mkL (FStr.flat (l.take k)) k0 := ⟨_, rfl⟩
      rw [← hDD] at hD0 hO2
      obtain ⟨R, hRR⟩ : ∃ R, R = FStr.flat (l.drop (k + 1)) := ⟨_, rfl⟩
      rw [← hRR] at hO2
      have HD := Lib.hid hD0
      have HDD := Lib.hid hDD
      have HRR := Lib.hid hRR
      have hkp : 1 ≤ kk := by omega
      generalize hCC : cntL (FStr.flat (l.take k)) = CC at *
      have hkb : kk + ((1 : Nat) : Int) ≤ 1000000000000 := by omega
      have HCC := Lib.hid hCC
      clear hx hD0 hDD hRR hkk hca hCC 
      obtain ⟨f0, hrow0, hnc0, hln0⟩ := hO2.row
      have hkc : k + 1 ≤ c := by omega
      have q0 := hrow0.cell (i := k) (by omega)
      have y0 := hrow0.frozen (k)
      clear hrow0
      go_wp2_with fail
      clear hkc y0 q0
      refine (markText_any _ _ (by omega)).mono ?_
      rintro e w2 ⟨rfl, hb1⟩
      have G1 := Lib.hid (OnlyF.of_below HGG.out hb1)
      have P1 := hO2.below hb1 (Nat.le_refl _)
      clear hO2 hb1
      obtain ⟨f1, hrow1, hnc1, hln1⟩ := P1.row
      have hkc : k + 1 ≤ c := by omega
      have q0 := hrow1.cell (i := k) (by omega)
      have y0 := hrow1.frozen (k)
      clear hrow1
      go_wp2_with fail
      clear hkc y0 q0
      have O1_0 := OwnC.setv (D := D) (y := .string z0) (R := R) (by simp only [List.append_assoc, List.cons_append, List.nil_append] at P1 ⊢; exact P1) hF (.string (mt (kk))) (k) (by simp [HD.out])
      clear P1
      go_roundw
      case rel =>
        have hmk : mkL (FStr.c ⟨z0⟩) kk = [.v (.string (mt (kk)))] := by
          rw [FStr.c_eq]
          rw [mkL_v (kk + 1) (by omega)]
          rw [mkL_nil]
          rfl
        have hcn : cntL (FStr.flat (l.take (k + 1))) = CC + (1) := by
          rw [FStr.flat_take l k _ HX.out, cntL_append, HCC.out, FStr.cnt_eq]
          try omega
        have hall : mkL (FStr.flat (l.take (k + 1))) k0 = D ++ [.v (.string (mt (kk)))] := by
          rw [FStr.flat_take l k _ HX.out, mkL_append, HCC.out, ← HKK.out, ← HDD.out, hmk]
        refine ⟨k + 1, _, by omega, by go_num, rfl, ?_, ?_, (OnlyF.set G1.out (p := ⟨g, k, none⟩) HG.out (.string (mt (kk))))⟩
        · rw [hcn]
          have := HKK.out
          omega
        · rw [hall, ← HRR.out]
          simp only [List.append_assoc, List.cons_append, List.nil_append] at O1_0 ⊢
          exact O1_0
      case measure => simp [intOf]; omega
    · obtain rfl : k = l.length := by omega
      clear hlt
      go_wp2_with fail
      go_ret
      have e := HO1.out
      rw [List.take_length, List.drop_length] at e
      have e2 := HKK.out
      rw [List.take_length] at e2
      exact ⟨ret_int e2, by simpa using e, HGG.out⟩
theorem markStringS_any (l : List FStr) : MarkStringS l := markStringS_of l
theorem markStringS_I (l : List FStr) (u : Value) (k0 : Int) (lo hi : Nat) (w : World) (h1 : 1 ≤ k0) (h2 : k0 + (cntL (FStr.flat l) : Int) ≤ 1000000000000) (h : OwnI w lo hi [.s 9 1 l.length (FStr.flat l)] [u]) :
    Calls Try.prog 50 #[u, .int .i64 k0] w fun e w' => e = .returned (.int .i64 (k0 + (cntL (FStr.flat l) : Int))) ∧ OwnI w' lo hi [.s 9 1 l.length (mkL (FStr.flat l) k0)] [u] ∧ Only lo hi w.heap.size w w' := by
  obtain ⟨F, a1, a2, a3⟩ := h
  exact (markStringS_any l u k0 F w h1 h2 a2 a1.unone).mono fun e w' ⟨h3, h4, h5⟩ => ⟨h3, own_interval a2 a3 (OwnL.one h4) h5⟩
theorem FInt.flat_len (l : List FInt) : (FInt.flat l).length = l.length * 1 := by
  induction l with
  | nil => simp
  | cons x r ih =>
    have e : FInt.flat (x :: r) = x.c ++ FInt.flat r := List.flatMap_cons
    rw [e, List.length_append, ih, FInt.len, List.length_cons]
    omega
theorem FInt.flat_at (l : List FInt) (k : Nat) (x : FInt) (h : l[k]? = some x) : l.drop k = x :: l.drop (k + 1) := by
  have hk := (List.getElem?_eq_some_iff.1 h).1
  rw [List.drop_eq_getElem_cons hk, (List.getElem?_eq_some_iff.1 h).2]
theorem FInt.flat_take (l : List FInt) (k : Nat) (x : FInt) (h : l[k]? = some x) : FInt.flat (l.take (k + 1)) = FInt.flat (l.take k) ++ x.c := by
  rw [List.take_add_one, h]
  simp [FInt.flat]
theorem FInt.flat_split (l : List FInt) (k : Nat) (x : FInt) (h : l[k]? = some x) : FInt.flat l = FInt.flat (l.take k) ++ (x.c ++ FInt.flat (l.drop (k + 1))) := by
  have e : FInt.flat (l.take k ++ l.drop k) = FInt.flat (l.take k) ++ FInt.flat (l.drop k) := List.flatMap_append
  rw [List.take_append_drop] at e
  rw [e, FInt.flat_at l k x h]
  have e2 : FInt.flat (x :: l.drop (k + 1)) = x.c ++ FInt.flat (l.drop (k + 1)) := List.flatMap_cons
  rw [e2]
theorem FInt.cnt_at (l : List FInt) (k : Nat) (x : FInt) (h : l[k]? = some x) : cntL (FInt.flat (l.take k)) + cntL x.c ≤ cntL (FInt.flat l) := by
  rw [FInt.flat_split l k x h, cntL_append, cntL_append]
  omega
theorem FInt.cnt_eq (z0 : Int) : cntL (FInt.c ⟨z0⟩) = 1 := by
  rw [FInt.c_eq]
  simp only [cntL, Cel.cnt]
  try omega
def MarkIntS (l : List FInt) : Prop := ∀ (u : Value) (k0 : Int) (F : List Nat) (w : World), 1 ≤ k0 → k0 + (cntL (FInt.flat l) : Int) ≤ 1000000000000 → F.Nodup → OwnC w (.s 3 1 l.length (FInt.flat l)) F u → Calls Try.prog 15 #[u, .int .i64 k0] w fun e w' => e = .returned (.int .i64 (k0 + (cntL (FInt.flat l) : Int))) ∧ OwnC w' (.s 3 1 l.length (mkL (FInt.flat l) k0)) F u ∧ OnlyF F w w'
def HeldIntS (l : List FInt) : Prop := ∀ (u : Value) (k0 : Int) (w : World), 1 ≤ k0 → k0 + (cntL (FInt.flat l) : Int) ≤ 1000000000000 → RdC w w.heap.size (.s 3 1 l.length (mkL (FInt.flat l) k0)) u → Calls Try.prog 16 #[u, .int .i64 k0] w fun e w' => e = .returned (.int .i64 (k0 + (cntL (FInt.flat l) : Int))) ∧ Below w.heap.size w w'
theorem cntb1_Int (x : FInt) : cntL x.c ≤ 10 + 10 * x.wt := by
  obtain ⟨z0⟩ := x
  rw [FInt.cnt_eq, FInt.wt_eq]
  omega
theorem cntb_IntS : ∀ l : List FInt, cntL (FInt.flat l) ≤ 10 * (l.length + FInt.wts l)
  | [] => by simp [cntL]
  | x :: r => by
    have e : FInt.flat (x :: r) = x.c ++ FInt.flat r := List.flatMap_cons
    have h1 := cntb1_Int x
    have h2 := cntb_IntS r
    rw [e, cntL_append, FInt.wts, List.length_cons]
    omega
set_option maxHeartbeats 2000000 in
theorem markIntS_of (l : List FInt) : MarkIntS l := by
  intro u k0 F w h1 h2 hF hO
  obtain ⟨A, c, rfl⟩ := hO.form
  have hcap := hO.read.cap
  have hn : l.length ≤ 9223372036854775807 := by unfold maxLen at hcap; omega
  have HO := Lib.hid hO
  clear hcap
  by_cases hl0 : l.length = 0
  · obtain rfl : l = [] := List.eq_nil_of_length_eq_zero hl0
    clear hO hl0
    go_enter Try.func15, Try.ntmps15
    go_wp2_with fail
    go_loop [1, 5] (fun kv i => kv = .int .i64 k0 ∧ i = .int .i64 0) (fun _ i => 0)
    case atStart => exact ⟨rfl, rfl⟩
    case round =>
      obtain ⟨rfl, rfl⟩ := hrel
      go_wp2_with fail
      go_ret
      exact ⟨ret_int (by simp [cntL]), by simpa [mkL] using HO.out, OnlyF.refl _ _⟩
  obtain ⟨g, hA, hg⟩ := hO.head (by omega)
  subst hA
  have HG := Lib.hid hg
  clear hO hg hl0
  go_enter Try.func15, Try.ntmps15
  go_wp2_with fail
  go_loopw [1, 5] (fun kv i wr => ∃ (k : Nat) (kk : Int), k ≤ l.length ∧ i = .int .i64 k ∧ kv = .int .i64 kk ∧ kk = k0 + (cntL (FInt.flat (l.take k)) : Int) ∧ OwnC wr (.s 3 1 l.length (mkL (FInt.flat (l.take k)) k0 ++ FInt.flat (l.drop k))) F (.slice (some ⟨g, 0, none⟩) l.length c) ∧ OnlyF F w wr) (fun _ i _ => l.length - (intOf i).toNat)
  case atStart => exact ⟨0, k0, Nat.zero_le _, rfl, rfl, by simp [cntL], by simpa [mkL] using HO.out, OnlyF.refl _ _⟩
  case round =>
    obtain ⟨k, kk, hk, rfl, rfl, hkk, hO, hG⟩ := hrel
    have HKK := Lib.hid hkk
    have HO1 := Lib.hid hO
    have HGG := Lib.hid hG
    clear hO hG
    by_cases hlt : k < l.length
    · obtain ⟨x, hx⟩ : ∃ x, l[k]? = some x := ⟨_, List.getElem?_eq_getElem hlt⟩
      have HX := Lib.hid hx
      have hca := FInt.cnt_at l k x hx
      have hD0 : (mkL (FInt.flat (l.take k)) k0).length = k * 1 := by rw [mkL_len, FInt.flat_len, List.length_take]; congr 1; omega
      have hO2 := HO1.out
      rw [FInt.flat_at l k x hx] at hO2
      obtain ⟨z0⟩ := x
      rw [show FInt.flat (⟨z0⟩ :: l.drop (k + 1)) = (FInt.c ⟨z0⟩) ++ FInt.flat (l.drop (k + 1)) from List.flatMap_cons, FInt.c_eq] at hO2
      rw [FInt.cnt_eq] at hca
      obtain ⟨D, hDD⟩ : ∃ D, D = mkL (FInt.flat (l.take k)) k0 := ⟨_, rfl⟩
      rw [← hDD] at hD0 hO2
      obtain ⟨R, hRR⟩ : ∃ R, R = FInt.flat (l.drop (k + 1)) := ⟨_, rfl⟩
      rw [← hRR] at hO2
      have HD := Lib.hid hD0
      have HDD := Lib.hid hDD
      have HRR := Lib.hid hRR
      have hkp : 1 ≤ kk := by omega
      generalize hCC : cntL (FInt.flat (l.take k)) = CC at *
      have hkb : kk + ((1 : Nat) : Int) ≤ 1000000000000 := by omega
      have HCC := Lib.hid hCC
      clear hx hD0 hDD hRR hkk hca hCC 
      obtain ⟨f0, hrow0, hnc0, hln0⟩ := hO2.row
      have hkc : k + 1 ≤ c := by omega
      have q0 := hrow0.cell (i := k) (by omega)
      have y0 := hrow0.frozen (k)
      clear hrow0
      go_wp2_with fail
      clear hkc y0 q0
      have O0_0 := OwnC.setv (D := D) (y := .int .i64 z0) (R := R) (by simp only [List.append_assoc, List.cons_append, List.nil_append] at hO2 ⊢; exact hO2) hF (.int .i64 (kk)) (k) (by simp [HD.out])
      clear hO2
      go_roundw
      case rel =>
        have hmk : mkL (FInt.c ⟨z0⟩) kk = [.v (.int .i64 (kk))] := by
          rw [FInt.c_eq]
          rw [mkL_v (kk + 1) (by omega)]
          rw [mkL_nil]
          rfl
        have hcn : cntL (FInt.flat (l.take (k + 1))) = CC + (1) := by
          rw [FInt.flat_take l k _ HX.out, cntL_append, HCC.out, FInt.cnt_eq]
          try omega
        have hall : mkL (FInt.flat (l.take (k + 1))) k0 = D ++ [.v (.int .i64 (kk))] := by
          rw [FInt.flat_take l k _ HX.out, mkL_append, HCC.out, ← HKK.out, ← HDD.out, hmk]
        refine ⟨k + 1, _, by omega, by go_num, rfl, ?_, ?_, (OnlyF.set HGG.out (p := ⟨g, k, none⟩) HG.out (.int .i64 (kk)))⟩
        · rw [hcn]
          have := HKK.out
          omega
        · rw [hall, ← HRR.out]
          simp only [List.append_assoc, List.cons_append, List.nil_append] at O0_0 ⊢
          exact O0_0
      case measure => simp [intOf]; omega
    · obtain rfl : k = l.length := by omega
      clear hlt
      go_wp2_with fail
      go_ret
      have e := HO1.out
      rw [List.take_length, List.drop_length] at e
      have e2 := HKK.out
      rw [List.take_length] at e2
      exact ⟨ret_int e2, by simpa using e, HGG.out⟩
set_option maxHeartbeats 2000000 in
theorem heldIntS_of (l : List FInt) : HeldIntS l := by
  intro u k0 w h1 h2 hR
  obtain ⟨A, c, rfl⟩ := hR.form
  have hcap := hR.cap
  have hn : l.length ≤ 9223372036854775807 := by unfold maxLen at hcap; omega
  have HR := Lib.hid hR
  clear hR hcap
  go_enter Try.func16, Try.ntmps16
  go_wp2_with fail
  go_loopw [1, 5] (fun kv i wr => ∃ (k : Nat) (kk : Int), k ≤ l.length ∧ i = .int .i64 k ∧ kv = .int .i64 kk ∧ kk = k0 + (cntL (FInt.flat (l.take k)) : Int) ∧ Below w.heap.size w wr) (fun _ i _ => l.length - (intOf i).toNat)
  case atStart => exact ⟨0, k0, Nat.zero_le _, rfl, rfl, by simp [cntL], Below.refl _ _⟩
  case round =>
    obtain ⟨k, kk, hk, rfl, rfl, hkk, hb⟩ := hrel
    have HKK := Lib.hid hkk
    by_cases hlt : k < l.length
    · obtain ⟨x, hx⟩ : ∃ x, l[k]? = some x := ⟨_, List.getElem?_eq_getElem hlt⟩
      have HX := Lib.hid hx
      have hca := FInt.cnt_at l k x hx
      obtain ⟨bc, offc, rfl, hblc, hcc⟩ := HR.out.cells (by omega)
      have hD0 : (mkL (FInt.flat (l.take k)) k0).length = k * 1 := by rw [mkL_len, FInt.flat_len, List.length_take]; congr 1; omega
      have hsp : mkL (FInt.flat l) k0 = mkL (FInt.flat (l.take k)) k0 ++ (mkL x.c kk ++ mkL (FInt.flat (l.drop (k + 1))) (kk + (cntL x.c : Int))) := by
        rw [FInt.flat_split l k x hx, mkL_append, mkL_append, ← hkk]
      obtain ⟨z0⟩ := x
      rw [FInt.cnt_eq] at hca
      have hmk : mkL (FInt.c ⟨z0⟩) kk = [.v (.int .i64 (kk))] := by
        rw [FInt.c_eq]
        rw [mkL_v (kk + 1) (by omega)]
        rw [mkL_nil]
        rfl
      rw [hmk] at hsp
      obtain ⟨u0, e0, q0⟩ := hcc (k * 1 + 0) _ (by rw [hsp]; exact mid_get hD0 rfl)
      obtain rfl := q0.val
      clear q0
      have c_0 : wr.cell? ⟨bc, offc + k, none⟩ = some (.int .i64 (kk)) := (hb.cell (p := ⟨bc, _, none⟩) hblc).trans (by simpa [Nat.add_assoc] using e0)
      have hkp : 1 ≤ kk := by omega
      have hkb : kk + ((1 : Nat) : Int) ≤ 1000000000000 := by omega
      clear hcc hsp hD0 hmk hx hca hkk e0 
      have hzb := hb.size
      go_wp2_with fail
      go_roundw
      case rel =>
        have hcn : cntL (FInt.flat (l.take (k + 1))) = cntL (FInt.flat (l.take k)) + (1) := by
          rw [FInt.flat_take l k _ HX.out, cntL_append, FInt.cnt_eq]
          try omega
        refine ⟨k + 1, _, by omega, by go_num, rfl, ?_, hb⟩
        rw [hcn]
        have := HKK.out
        omega
      case measure => simp [intOf]; omega
    · obtain rfl : k = l.length := by omega
      clear hlt
      go_wp2_with fail
      go_ret
      have e2 := HKK.out
      rw [List.take_length] at e2
      exact ⟨ret_int e2, hb⟩
theorem markIntS_any (l : List FInt) : MarkIntS l := markIntS_of l
theorem heldIntS_any (l : List FInt) : HeldIntS l := heldIntS_of l
theorem markIntS_I (l : List FInt) (u : Value) (k0 : Int) (lo hi : Nat) (w : World) (h1 : 1 ≤ k0) (h2 : k0 + (cntL (FInt.flat l) : Int) ≤ 1000000000000) (h : OwnI w lo hi [.s 3 1 l.length (FInt.flat l)] [u]) :
    Calls Try.prog 15 #[u, .int .i64 k0] w fun e w' => e = .returned (.int .i64 (k0 + (cntL (FInt.flat l) : Int))) ∧ OwnI w' lo hi [.s 3 1 l.length (mkL (FInt.flat l) k0)] [u] ∧ Only lo hi w.heap.size w w' := by
  obtain ⟨F, a1, a2, a3⟩ := h
  exact (markIntS_any l u k0 F w h1 h2 a2 a1.unone).mono fun e w' ⟨h3, h4, h5⟩ => ⟨h3, own_interval a2 a3 (OwnL.one h4) h5⟩
theorem FIns.flat_len (l : List FIns) : (FIns.flat l).length = l.length * 5 := by
  induction l with
  | nil => simp
  | cons x r ih =>
    have e : FIns.flat (x :: r) = x.c ++ FIns.flat r := List.flatMap_cons
    rw [e, List.length_append, ih, FIns.len, List.length_cons]
    omega
theorem FIns.flat_at (l : List FIns) (k : Nat) (x : FIns) (h : l[k]? = some x) : l.drop k = x :: l.drop (k + 1) := by
  have hk := (List.getElem?_eq_some_iff.1 h).1
  rw [List.drop_eq_getElem_cons hk, (List.getElem?_eq_some_iff.1 h).2]
theorem FIns.flat_take (l : List FIns) (k : Nat) (x : FIns) (h : l[k]? = some x) : FIns.flat (l.take (k + 1)) = FIns.flat (l.take k) ++ x.c := by
  rw [List.take_add_one, h]
  simp [FIns.flat]
theorem FIns.flat_split (l : List FIns) (k : Nat) (x : FIns) (h : l[k]? = some x) : FIns.flat l = FIns.flat (l.take k) ++ (x.c ++ FIns.flat (l.drop (k + 1))) := by
  have e : FIns.flat (l.take k ++ l.drop k) = FIns.flat (l.take k) ++ FIns.flat (l.drop k) := List.flatMap_append
  rw [List.take_append_drop] at e
  rw [e, FIns.flat_at l k x h]
  have e2 : FIns.flat (x :: l.drop (k + 1)) = x.c ++ FIns.flat (l.drop (k + 1)) := List.flatMap_cons
  rw [e2]
theorem FIns.cnt_at (l : List FIns) (k : Nat) (x : FIns) (h : l[k]? = some x) : cntL (FIns.flat (l.take k)) + cntL x.c ≤ cntL (FIns.flat l) := by
  rw [FIns.flat_split l k x h, cntL_append, cntL_append]
  omega
theorem FIns.cnt_eq (z0 : Int) (z1 : Int) (z2 : Int) (z3 : ByteArray) (z4 : ByteArray) : cntL (FIns.c ⟨z0, z1, z2, z3, z4⟩) = 5 := by
  rw [FIns.c_eq]
  simp only [cntL, Cel.cnt]
  try omega
def MarkInsS (l : List FIns) : Prop := ∀ (u : Value) (k0 : Int) (F : List Nat) (w : World), 1 ≤ k0 → k0 + (cntL (FIns.flat l) : Int) ≤ 1000000000000 → F.Nodup → OwnC w (.s 48 5 l.length (FIns.flat l)) F u → Calls Try.prog 51 #[u, .int .i64 k0] w fun e w' => e = .returned (.int .i64 (k0 + (cntL (FIns.flat l) : Int))) ∧ OwnC w' (.s 48 5 l.length (mkL (FIns.flat l) k0)) F u ∧ OnlyF F w w'
theorem cntb1_Ins (x : FIns) : cntL x.c ≤ 10 + 10 * x.wt := by
  obtain ⟨z0, z1, z2, z3, z4⟩ := x
  rw [FIns.cnt_eq, FIns.wt_eq]
  omega
theorem cntb_InsS : ∀ l : List FIns, cntL (FIns.flat l) ≤ 10 * (l.length + FIns.wts l)
  | [] => by simp [cntL]
  | x :: r => by
    have e : FIns.flat (x :: r) = x.c ++ FIns.flat r := List.flatMap_cons
    have h1 := cntb1_Ins x
    have h2 := cntb_InsS r
    rw [e, cntL_append, FIns.wts, List.length_cons]
    omega
theorem cntb_Ins (x : FIns) : scnt x.c ≤ 10 * x.wt := by
  obtain ⟨z0, z1, z2, z3, z4⟩ := x
  rw [FIns.c_eq, FIns.wt_eq]
  simp only [scnt]
  omega
set_option maxHeartbeats 2000000 in
theorem markInsS_of (l : List FIns) : MarkInsS l := by
  intro u k0 F w h1 h2 hF hO
  obtain ⟨A, c, rfl⟩ := hO.form
  have hcap := hO.read.cap
  have hn : l.length ≤ 9223372036854775807 := by unfold maxLen at hcap; omega
  have HO := Lib.hid hO
  clear hcap
  by_cases hl0 : l.length = 0
  · obtain rfl : l = [] := List.eq_nil_of_length_eq_zero hl0
    clear hO hl0
    go_enter Try.func51, Try.ntmps51
    go_wp2_with fail
    go_loop [1, 5] (fun kv i => kv = .int .i64 k0 ∧ i = .int .i64 0) (fun _ i => 0)
    case atStart => exact ⟨rfl, rfl⟩
    case round =>
      obtain ⟨rfl, rfl⟩ := hrel
      go_wp2_with fail
      go_ret
      exact ⟨ret_int (by simp [cntL]), by simpa [mkL] using HO.out, OnlyF.refl _ _⟩
  obtain ⟨g, hA, hg⟩ := hO.head (by omega)
  subst hA
  have HG := Lib.hid hg
  clear hO hg hl0
  go_enter Try.func51, Try.ntmps51
  go_wp2_with fail
  go_loopw [1, 5] (fun kv i wr => ∃ (k : Nat) (kk : Int), k ≤ l.length ∧ i = .int .i64 k ∧ kv = .int .i64 kk ∧ kk = k0 + (cntL (FIns.flat (l.take k)) : Int) ∧ OwnC wr (.s 48 5 l.length (mkL (FIns.flat (l.take k)) k0 ++ FIns.flat (l.drop k))) F (.slice (some ⟨g, 0, none⟩) l.length c) ∧ OnlyF F w wr) (fun _ i _ => l.length - (intOf i).toNat)
  case atStart => exact ⟨0, k0, Nat.zero_le _, rfl, rfl, by simp [cntL], by simpa [mkL] using HO.out, OnlyF.refl _ _⟩
  case round =>
    obtain ⟨k, kk, hk, rfl, rfl, hkk, hO, hG⟩ := hrel
    have HKK := Lib.hid hkk
    have HO1 := Lib.hid hO
    have HGG := Lib.hid hG
    clear hO hG
    by_cases hlt : k < l.length
    · obtain ⟨x, hx⟩ : ∃ x, l[k]? = some x := ⟨_, List.getElem?_eq_getElem hlt⟩
      have HX := Lib.hid hx
      have hca := FIns.cnt_at l k x hx
      have hD0 : (mkL (FIns.flat (l.take k)) k0).length = k * 5 := by rw [mkL_len, FIns.flat_len, List.length_take]; congr 1; omega
      have hO2 := HO1.out
      rw [FIns.flat_at l k x hx] at hO2
      obtain ⟨z0, z1, z2, z3, z4⟩ := x
      rw [show FIns.flat (⟨z0, z1, z2, z3, z4⟩ :: l.drop (k + 1)) = (FIns.c ⟨z0, z1, z2, z3, z4⟩) ++ FIns.flat (l.drop (k + 1)) from List.flatMap_cons, FIns.c_eq] at hO2
      rw [FIns.cnt_eq] at hca
      obtain ⟨D, hDD⟩ : ∃ D, D = mkL (FIns.flat (l.take k)) k0 := ⟨_, rfl⟩
      rw [← hDD] at hD0 hO2
      obtain ⟨R, hRR⟩ : ∃ R, R = FIns.flat (l.drop (k + 1)) := ⟨_, rfl⟩
      rw [← hRR] at hO2
      have HD := Lib.hid hD0
      have HDD := Lib.hid hDD
      have HRR := Lib.hid hRR
      have hkp : 1 ≤ kk := by omega
      generalize hCC : cntL (FIns.flat (l.take k)) = CC at *
      have hkb : kk + ((5 : Nat) : Int) ≤ 1000000000000 := by omega
      have HCC := Lib.hid hCC
      clear hx hD0 hDD hRR hkk hca hCC 
      obtain ⟨f0, hrow0, hnc0, hln0⟩ := hO2.row
      have hkc : k * 5 + 5 ≤ c * 5 := by have := Nat.mul_le_mul_right 5 (show k + 1 ≤ c by omega); rw [Nat.succ_mul] at this; exact this
      have q0 := hrow0.cell (i := k * 5) (by omega)
      have y0 := hrow0.frozen (k * 5)
      have q1 := hrow0.cell (i := k * 5 + 1) (by omega)
      have y1 := hrow0.frozen (k * 5 + 1)
      have q2 := hrow0.cell (i := k * 5 + 2) (by omega)
      have y2 := hrow0.frozen (k * 5 + 2)
      have q3 := hrow0.cell (i := k * 5 + 3) (by omega)
      have y3 := hrow0.frozen (k * 5 + 3)
      have q4 := hrow0.cell (i := k * 5 + 4) (by omega)
      have y4 := hrow0.frozen (k * 5 + 4)
      clear hrow0
      go_wp2_with fail
      clear hkc y0 y1 y2 y3 y4 q0 q1 q2 q3 q4
      have O0_0 := OwnC.setv (D := D) (y := .int .i64 z0) (R := .v (.int .i64 z1) :: .v (.int .i64 z2) :: .v (.string z3) :: .v (.string z4) :: R) (by simp only [List.append_assoc, List.cons_append, List.nil_append] at hO2 ⊢; exact hO2) hF (.int .i64 (kk)) (k * 5) (by simp [HD.out])
      clear hO2
      have O0_1 := OwnC.setv (D := D ++ [.v (.int .i64 (kk))]) (y := .int .i64 z1) (R := .v (.int .i64 z2) :: .v (.string z3) :: .v (.string z4) :: R) (by simp only [List.append_assoc, List.cons_append, List.nil_append] at O0_0 ⊢; exact O0_0) hF (.int .i64 (kk + 1)) (k * 5 + 1) (by simp [HD.out])
      clear O0_0
      have O0_2 := OwnC.setv (D := D ++ [.v (.int .i64 (kk)), .v (.int .i64 (kk + 1))]) (y := .int .i64 z2) (R := .v (.string z3) :: .v (.string z4) :: R) (by simp only [List.append_assoc, List.cons_append, List.nil_append] at O0_1 ⊢; exact O0_1) hF (.int .i64 (kk + 1 + 1)) (k * 5 + 2) (by simp [HD.out])
      clear O0_1
      refine (markText_any _ _ (by omega)).mono ?_
      rintro e w2 ⟨rfl, hb1⟩
      have G1 := Lib.hid (OnlyF.of_below (OnlyF.set (OnlyF.set (OnlyF.set HGG.out (p := ⟨g, k * 5, none⟩) HG.out (.int .i64 (kk))) (p := ⟨g, k * 5 + 1, none⟩) HG.out (.int .i64 (kk + 1))) (p := ⟨g, k * 5 + 2, none⟩) HG.out (.int .i64 (kk + 1 + 1))) hb1)
      have P1 := O0_2.below hb1 (Nat.le_refl _)
      clear O0_2 hb1
      obtain ⟨f1, hrow1, hnc1, hln1⟩ := P1.row
      have hkc : k * 5 + 5 ≤ c * 5 := by have := Nat.mul_le_mul_right 5 (show k + 1 ≤ c by omega); rw [Nat.succ_mul] at this; exact this
      have q0 := hrow1.cell (i := k * 5) (by omega)
      have y0 := hrow1.frozen (k * 5)
      have q1 := hrow1.cell (i := k * 5 + 1) (by omega)
      have y1 := hrow1.frozen (k * 5 + 1)
      have q2 := hrow1.cell (i := k * 5 + 2) (by omega)
      have y2 := hrow1.frozen (k * 5 + 2)
      have q3 := hrow1.cell (i := k * 5 + 3) (by omega)
      have y3 := hrow1.frozen (k * 5 + 3)
      have q4 := hrow1.cell (i := k * 5 + 4) (by omega)
      have y4 := hrow1.frozen (k * 5 + 4)
      clear hrow1
      go_wp2_with fail
      clear hkc y0 y1 y2 y3 y4 q0 q1 q2 q3 q4
      have O1_3 := OwnC.setv (D := D ++ [.v (.int .i64 (kk)), .v (.int .i64 (kk + 1)), .v (.int .i64 (kk + 1 + 1))]) (y := .string z3) (R := .v (.string z4) :: R) (by simp only [List.append_assoc, List.cons_append, List.nil_append] at P1 ⊢; exact P1) hF (.string (mt (kk + 1 + 1 + 1))) (k * 5 + 3) (by simp [HD.out])
      clear P1
      refine (markText_any _ _ (by omega)).mono ?_
      rintro e w3 ⟨rfl, hb2⟩
      have G2 := Lib.hid (OnlyF.of_below (OnlyF.set G1.out (p := ⟨g, k * 5 + 3, none⟩) HG.out (.string (mt (kk + 1 + 1 + 1)))) hb2)
      have P2 := O1_3.below hb2 (Nat.le_refl _)
      clear O1_3 hb2
      obtain ⟨f2, hrow2, hnc2, hln2⟩ := P2.row
      have hkc : k * 5 + 5 ≤ c * 5 := by have := Nat.mul_le_mul_right 5 (show k + 1 ≤ c by omega); rw [Nat.succ_mul] at this; exact this
      have q0 := hrow2.cell (i := k * 5) (by omega)
      have y0 := hrow2.frozen (k * 5)
      have q1 := hrow2.cell (i := k * 5 + 1) (by omega)
      have y1 := hrow2.frozen (k * 5 + 1)
      have q2 := hrow2.cell (i := k * 5 + 2) (by omega)
      have y2 := hrow2.frozen (k * 5 + 2)
      have q3 := hrow2.cell (i := k * 5 + 3) (by omega)
      have y3 := hrow2.frozen (k * 5 + 3)
      have q4 := hrow2.cell (i := k * 5 + 4) (by omega)
      have y4 := hrow2.frozen (k * 5 + 4)
      clear hrow2
      go_wp2_with fail
      clear hkc y0 y1 y2 y3 y4 q0 q1 q2 q3 q4
      have O2_4 := OwnC.setv (D := D ++ [.v (.int .i64 (kk)), .v (.int .i64 (kk + 1)), .v (.int .i64 (kk + 1 + 1)), .v (.string (mt (kk + 1 + 1 + 1)))]) (y := .string z4) (R := R) (by simp only [List.append_assoc, List.cons_append, List.nil_append] at P2 ⊢; exact P2) hF (.string (mt (kk + 1 + 1 + 1 + 1))) (k * 5 + 4) (by simp [HD.out])
      clear P2
      go_roundw
      case rel =>
        have hmk : mkL (FIns.c ⟨z0, z1, z2, z3, z4⟩) kk = [.v (.int .i64 (kk)), .v (.int .i64 (kk + 1)), .v (.int .i64 (kk + 1 + 1)), .v (.string (mt (kk + 1 + 1 + 1))), .v (.string (mt (kk + 1 + 1 + 1 + 1)))] := by
          rw [FIns.c_eq]
          rw [mkL_v (kk + 1) (by omega)]
          rw [mkL_v (kk + 1 + 1) (by omega)]
          rw [mkL_v (kk + 1 + 1 + 1) (by omega)]
          rw [mkL_v (kk + 1 + 1 + 1 + 1) (by omega)]
          rw [mkL_v (kk + 1 + 1 + 1 + 1 + 1) (by omega)]
          rw [mkL_nil]
          rfl
        have hcn : cntL (FIns.flat (l.take (k + 1))) = CC + (5) := by
          rw [FIns.flat_take l k _ HX.out, cntL_append, HCC.out, FIns.cnt_eq]
          try omega
        have hall : mkL (FIns.flat (l.take (k + 1))) k0 = D ++ [.v (.int .i64 (kk)), .v (.int .i64 (kk + 1)), .v (.int .i64 (kk + 1 + 1)), .v (.string (mt (kk + 1 + 1 + 1))), .v (.string (mt (kk + 1 + 1 + 1 + 1)))] := by
          rw [FIns.flat_take l k _ HX.out, mkL_append, HCC.out, ← HKK.out, ← HDD.out, hmk]
        refine ⟨k + 1, _, by omega, by go_num, rfl, ?_, ?_, (OnlyF.set G2.out (p := ⟨g, k * 5 + 4, none⟩) HG.out (.string (mt (kk + 1 + 1 + 1 + 1))))⟩
        · rw [hcn]
          have := HKK.out
          omega
        · rw [hall, ← HRR.out]
          simp only [List.append_assoc, List.cons_append, List.nil_append] at O2_4 ⊢
          exact O2_4
      case measure => simp [intOf]; omega
    · obtain rfl : k = l.length := by omega
      clear hlt
      go_wp2_with fail
      go_ret
      have e := HO1.out
      rw [List.take_length, List.drop_length] at e
      have e2 := HKK.out
      rw [List.take_length] at e2
      exact ⟨ret_int e2, by simpa using e, HGG.out⟩
theorem markInsS_any (l : List FIns) : MarkInsS l := markInsS_of l
theorem markInsS_I (l : List FIns) (u : Value) (k0 : Int) (lo hi : Nat) (w : World) (h1 : 1 ≤ k0) (h2 : k0 + (cntL (FIns.flat l) : Int) ≤ 1000000000000) (h : OwnI w lo hi [.s 48 5 l.length (FIns.flat l)] [u]) :
    Calls Try.prog 51 #[u, .int .i64 k0] w fun e w' => e = .returned (.int .i64 (k0 + (cntL (FIns.flat l) : Int))) ∧ OwnI w' lo hi [.s 48 5 l.length (mkL (FIns.flat l) k0)] [u] ∧ Only lo hi w.heap.size w w' := by
  obtain ⟨F, a1, a2, a3⟩ := h
  exact (markInsS_any l u k0 F w h1 h2 a2 a1.unone).mono fun e w' ⟨h3, h4, h5⟩ => ⟨h3, own_interval a2 a3 (OwnL.one h4) h5⟩
theorem FParam.flat_len (l : List FParam) : (FParam.flat l).length = l.length * 2 := by
  induction l with
  | nil => simp
  | cons x r ih =>
    have e : FParam.flat (x :: r) = x.c ++ FParam.flat r := List.flatMap_cons
    rw [e, List.length_append, ih, FParam.len, List.length_cons]
    omega
theorem FParam.flat_at (l : List FParam) (k : Nat) (x : FParam) (h : l[k]? = some x) : l.drop k = x :: l.drop (k + 1) := by
  have hk := (List.getElem?_eq_some_iff.1 h).1
  rw [List.drop_eq_getElem_cons hk, (List.getElem?_eq_some_iff.1 h).2]
theorem FParam.flat_take (l : List FParam) (k : Nat) (x : FParam) (h : l[k]? = some x) : FParam.flat (l.take (k + 1)) = FParam.flat (l.take k) ++ x.c := by
  rw [List.take_add_one, h]
  simp [FParam.flat]
theorem FParam.flat_split (l : List FParam) (k : Nat) (x : FParam) (h : l[k]? = some x) : FParam.flat l = FParam.flat (l.take k) ++ (x.c ++ FParam.flat (l.drop (k + 1))) := by
  have e : FParam.flat (l.take k ++ l.drop k) = FParam.flat (l.take k) ++ FParam.flat (l.drop k) := List.flatMap_append
  rw [List.take_append_drop] at e
  rw [e, FParam.flat_at l k x h]
  have e2 : FParam.flat (x :: l.drop (k + 1)) = x.c ++ FParam.flat (l.drop (k + 1)) := List.flatMap_cons
  rw [e2]
theorem FParam.cnt_at (l : List FParam) (k : Nat) (x : FParam) (h : l[k]? = some x) : cntL (FParam.flat (l.take k)) + cntL x.c ≤ cntL (FParam.flat l) := by
  rw [FParam.flat_split l k x h, cntL_append, cntL_append]
  omega
theorem FParam.cnt_eq (z0 : ByteArray) (z1 : Bool) : cntL (FParam.c ⟨z0, z1⟩) = 2 := by
  rw [FParam.c_eq]
  simp only [cntL, Cel.cnt]
  try omega
def MarkParamS (l : List FParam) : Prop := ∀ (u : Value) (k0 : Int) (F : List Nat) (w : World), 1 ≤ k0 → k0 + (cntL (FParam.flat l) : Int) ≤ 1000000000000 → F.Nodup → OwnC w (.s 56 2 l.length (FParam.flat l)) F u → Calls Try.prog 49 #[u, .int .i64 k0] w fun e w' => e = .returned (.int .i64 (k0 + (cntL (FParam.flat l) : Int))) ∧ OwnC w' (.s 56 2 l.length (mkL (FParam.flat l) k0)) F u ∧ OnlyF F w w'
theorem cntb1_Param (x : FParam) : cntL x.c ≤ 10 + 10 * x.wt := by
  obtain ⟨z0, z1⟩ := x
  rw [FParam.cnt_eq, FParam.wt_eq]
  omega
theorem cntb_ParamS : ∀ l : List FParam, cntL (FParam.flat l) ≤ 10 * (l.length + FParam.wts l)
  | [] => by simp [cntL]
  | x :: r => by
    have e : FParam.flat (x :: r) = x.c ++ FParam.flat r := List.flatMap_cons
    have h1 := cntb1_Param x
    have h2 := cntb_ParamS r
    rw [e, cntL_append, FParam.wts, List.length_cons]
    omega
theorem cntb_Param (x : FParam) : scnt x.c ≤ 10 * x.wt := by
  obtain ⟨z0, z1⟩ := x
  rw [FParam.c_eq, FParam.wt_eq]
  simp only [scnt]
  omega
set_option maxHeartbeats 2000000 in
theorem markParamS_of (l : List FParam) : MarkParamS l := by
  intro u k0 F w h1 h2 hF hO
  obtain ⟨A, c, rfl⟩ := hO.form
  have hcap := hO.read.cap
  have hn : l.length ≤ 9223372036854775807 := by unfold maxLen at hcap; omega
  have HO := Lib.hid hO
  clear hcap
  by_cases hl0 : l.length = 0
  · obtain rfl : l = [] := List.eq_nil_of_length_eq_zero hl0
    clear hO hl0
    go_enter Try.func49, Try.ntmps49
    go_wp2_with fail
    go_loop [1, 5] (fun kv i => kv = .int .i64 k0 ∧ i = .int .i64 0) (fun _ i => 0)
    case atStart => exact ⟨rfl, rfl⟩
    case round =>
      obtain ⟨rfl, rfl⟩ := hrel
      go_wp2_with fail
      go_ret
      exact ⟨ret_int (by simp [cntL]), by simpa [mkL] using HO.out, OnlyF.refl _ _⟩
  obtain ⟨g, hA, hg⟩ := hO.head (by omega)
  subst hA
  have HG := Lib.hid hg
  clear hO hg hl0
  go_enter Try.func49, Try.ntmps49
  go_wp2_with fail
  go_loopw [1, 5] (fun kv i wr => ∃ (k : Nat) (kk : Int), k ≤ l.length ∧ i = .int .i64 k ∧ kv = .int .i64 kk ∧ kk = k0 + (cntL (FParam.flat (l.take k)) : Int) ∧ OwnC wr (.s 56 2 l.length (mkL (FParam.flat (l.take k)) k0 ++ FParam.flat (l.drop k))) F (.slice (some ⟨g, 0, none⟩) l.length c) ∧ OnlyF F w wr) (fun _ i _ => l.length - (intOf i).toNat)
  case atStart => exact ⟨0, k0, Nat.zero_le _, rfl, rfl, by simp [cntL], by simpa [mkL] using HO.out, OnlyF.refl _ _⟩
  case round =>
    obtain ⟨k, kk, hk, rfl, rfl, hkk, hO, hG⟩ := hrel
    have HKK := Lib.hid hkk
    have HO1 := Lib.hid hO
    have HGG := Lib.hid hG
    clear hO hG
    by_cases hlt : k < l.length
    · obtain ⟨x, hx⟩ : ∃ x, l[k]? = some x := ⟨_, List.getElem?_eq_getElem hlt⟩
      have HX := Lib.hid hx
      have hca := FParam.cnt_at l k x hx
      have hD0 : (mkL (FParam.flat (l.take k)) k0).length = k * 2 := by rw [mkL_len, FParam.flat_len, List.length_take]; congr 1; omega
      have hO2 := HO1.out
      rw [FParam.flat_at l k x hx] at hO2
      obtain ⟨z0, z1⟩ := x
      rw [show FParam.flat (⟨z0, z1⟩ :: l.drop (k + 1)) = (FParam.c ⟨z0, z1⟩) ++ FParam.flat (l.drop (k + 1)) from List.flatMap_cons, FParam.c_eq] at hO2
      rw [FParam.cnt_eq] at hca
      obtain ⟨D, hDD⟩ : ∃ D, D = mkL (FParam.flat (l.take k)) k0 := ⟨_, rfl⟩
      rw [← hDD] at hD0 hO2
      obtain ⟨R, hRR⟩ : ∃ R, R = FParam.flat (l.drop (k + 1)) := ⟨_, rfl⟩
      rw [← hRR] at hO2
      have HD := Lib.hid hD0
      have HDD := Lib.hid hDD
      have HRR := Lib.hid hRR
      have hkp : 1 ≤ kk := by omega
      generalize hCC : cntL (FParam.flat (l.take k)) = CC at *
      have hkb : kk + ((2 : Nat) : Int) ≤ 1000000000000 := by omega
      have HCC := Lib.hid hCC
      clear hx hD0 hDD hRR hkk hca hCC 
      obtain ⟨f0, hrow0, hnc0, hln0⟩ := hO2.row
      have hkc : k * 2 + 2 ≤ c * 2 := by have := Nat.mul_le_mul_right 2 (show k + 1 ≤ c by omega); rw [Nat.succ_mul] at this; exact this
      have q0 := hrow0.cell (i := k * 2) (by omega)
      have y0 := hrow0.frozen (k * 2)
      have q1 := hrow0.cell (i := k * 2 + 1) (by omega)
      have y1 := hrow0.frozen (k * 2 + 1)
      clear hrow0
      go_wp2_with fail
      clear hkc y0 y1 q0 q1
      refine (markText_any _ _ (by omega)).mono ?_
      rintro e w2 ⟨rfl, hb1⟩
      have G1 := Lib.hid (OnlyF.of_below HGG.out hb1)
      have P1 := hO2.below hb1 (Nat.le_refl _)
      clear hO2 hb1
      obtain ⟨f1, hrow1, hnc1, hln1⟩ := P1.row
      have hkc : k * 2 + 2 ≤ c * 2 := by have := Nat.mul_le_mul_right 2 (show k + 1 ≤ c by omega); rw [Nat.succ_mul] at this; exact this
      have q0 := hrow1.cell (i := k * 2) (by omega)
      have y0 := hrow1.frozen (k * 2)
      have q1 := hrow1.cell (i := k * 2 + 1) (by omega)
      have y1 := hrow1.frozen (k * 2 + 1)
      clear hrow1
      go_wp2_with fail
      clear hkc y0 y1 q0 q1
      have O1_0 := OwnC.setv (D := D) (y := .string z0) (R := .v (.bool z1) :: R) (by simp only [List.append_assoc, List.cons_append, List.nil_append] at P1 ⊢; exact P1) hF (.string (mt (kk))) (k * 2) (by simp [HD.out])
      clear P1
      have O1_1 := OwnC.setv (D := D ++ [.v (.string (mt (kk)))]) (y := .bool z1) (R := R) (by simp only [List.append_assoc, List.cons_append, List.nil_append] at O1_0 ⊢; exact O1_0) hF (.bool ((kk + 1) % 3 == 0)) (k * 2 + 1) (by simp [HD.out])
      clear O1_0
      go_roundw
      case rel =>
        have hmk : mkL (FParam.c ⟨z0, z1⟩) kk = [.v (.string (mt (kk))), .v (.bool ((kk + 1) % 3 == 0))] := by
          rw [FParam.c_eq]
          rw [mkL_v (kk + 1) (by omega)]
          rw [mkL_v (kk + 1 + 1) (by omega)]
          rw [mkL_nil]
          rfl
        have hcn : cntL (FParam.flat (l.take (k + 1))) = CC + (2) := by
          rw [FParam.flat_take l k _ HX.out, cntL_append, HCC.out, FParam.cnt_eq]
          try omega
        have hall : mkL (FParam.flat (l.take (k + 1))) k0 = D ++ [.v (.string (mt (kk))), .v (.bool ((kk + 1) % 3 == 0))] := by
          rw [FParam.flat_take l k _ HX.out, mkL_append, HCC.out, ← HKK.out, ← HDD.out, hmk]
        refine ⟨k + 1, _, by omega, by go_num, rfl, ?_, ?_, (OnlyF.set (OnlyF.set G1.out (p := ⟨g, k * 2, none⟩) HG.out (.string (mt (kk)))) (p := ⟨g, k * 2 + 1, none⟩) HG.out (.bool ((kk + 1) % 3 == 0)))⟩
        · rw [hcn]
          have := HKK.out
          omega
        · rw [hall, ← HRR.out]
          simp only [List.append_assoc, List.cons_append, List.nil_append] at O1_1 ⊢
          exact O1_1
      case measure => simp [intOf]; omega
    · obtain rfl : k = l.length := by omega
      clear hlt
      go_wp2_with fail
      go_ret
      have e := HO1.out
      rw [List.take_length, List.drop_length] at e
      have e2 := HKK.out
      rw [List.take_length] at e2
      exact ⟨ret_int e2, by simpa using e, HGG.out⟩
theorem markParamS_any (l : List FParam) : MarkParamS l := markParamS_of l
theorem markParamS_I (l : List FParam) (u : Value) (k0 : Int) (lo hi : Nat) (w : World) (h1 : 1 ≤ k0) (h2 : k0 + (cntL (FParam.flat l) : Int) ≤ 1000000000000) (h : OwnI w lo hi [.s 56 2 l.length (FParam.flat l)] [u]) :
    Calls Try.prog 49 #[u, .int .i64 k0] w fun e w' => e = .returned (.int .i64 (k0 + (cntL (FParam.flat l) : Int))) ∧ OwnI w' lo hi [.s 56 2 l.length (mkL (FParam.flat l) k0)] [u] ∧ Only lo hi w.heap.size w w' := by
  obtain ⟨F, a1, a2, a3⟩ := h
  exact (markParamS_any l u k0 F w h1 h2 a2 a1.unone).mono fun e w' ⟨h3, h4, h5⟩ => ⟨h3, own_interval a2 a3 (OwnL.one h4) h5⟩
theorem FFunc.flat_len (l : List FFunc) : (FFunc.flat l).length = l.length * 6 := by
  induction l with
  | nil => simp
  | cons x r ih =>
    have e : FFunc.flat (x :: r) = x.c ++ FFunc.flat r := List.flatMap_cons
    rw [e, List.length_append, ih, FFunc.len, List.length_cons]
    omega
theorem FFunc.flat_at (l : List FFunc) (k : Nat) (x : FFunc) (h : l[k]? = some x) : l.drop k = x :: l.drop (k + 1) := by
  have hk := (List.getElem?_eq_some_iff.1 h).1
  rw [List.drop_eq_getElem_cons hk, (List.getElem?_eq_some_iff.1 h).2]
theorem FFunc.flat_take (l : List FFunc) (k : Nat) (x : FFunc) (h : l[k]? = some x) : FFunc.flat (l.take (k + 1)) = FFunc.flat (l.take k) ++ x.c := by
  rw [List.take_add_one, h]
  simp [FFunc.flat]
theorem FFunc.flat_split (l : List FFunc) (k : Nat) (x : FFunc) (h : l[k]? = some x) : FFunc.flat l = FFunc.flat (l.take k) ++ (x.c ++ FFunc.flat (l.drop (k + 1))) := by
  have e : FFunc.flat (l.take k ++ l.drop k) = FFunc.flat (l.take k) ++ FFunc.flat (l.drop k) := List.flatMap_append
  rw [List.take_append_drop] at e
  rw [e, FFunc.flat_at l k x h]
  have e2 : FFunc.flat (x :: l.drop (k + 1)) = x.c ++ FFunc.flat (l.drop (k + 1)) := List.flatMap_cons
  rw [e2]
theorem FFunc.cnt_at (l : List FFunc) (k : Nat) (x : FFunc) (h : l[k]? = some x) : cntL (FFunc.flat (l.take k)) + cntL x.c ≤ cntL (FFunc.flat l) := by
  rw [FFunc.flat_split l k x h, cntL_append, cntL_append]
  omega
theorem FFunc.cnt_eq (z0 : ByteArray) (z1 : List FParam) (z2 : List FParam) (z3 : List FStr) (z4 : Bool) (z5 : List FIns) : cntL (FFunc.c ⟨z0, z1, z2, z3, z4, z5⟩) = 2 + cntL (FParam.flat z1) + cntL (FParam.flat z2) + cntL (FStr.flat z3) + cntL (FIns.flat z5) := by
  rw [FFunc.c_eq]
  simp only [cntL, Cel.cnt]
  try omega
def MkFunc : FFunc → Prop
  | ⟨z0, z1, z2, z3, z4, z5⟩ => MarkParamS z1 ∧ MarkParamS z2 ∧ MarkStringS z3 ∧ MarkInsS z5
theorem cntb1_Func (x : FFunc) : cntL x.c ≤ 10 + 10 * x.wt := by
  obtain ⟨z0, z1, z2, z3, z4, z5⟩ := x
  rw [FFunc.cnt_eq, FFunc.wt_eq]
  have b1 := cntb_ParamS z1
  have b2 := cntb_ParamS z2
  have b3 := cntb_StringS z3
  have b5 := cntb_InsS z5
  omega
theorem cntb_FuncS : ∀ l : List FFunc, cntL (FFunc.flat l) ≤ 10 * (l.length + FFunc.wts l)
  | [] => by simp [cntL]
  | x :: r => by
    have e : FFunc.flat (x :: r) = x.c ++ FFunc.flat r := List.flatMap_cons
    have h1 := cntb1_Func x
    have h2 := cntb_FuncS r
    rw [e, cntL_append, FFunc.wts, List.length_cons]
    omega
theorem cntb_Func (x : FFunc) : scnt x.c ≤ 10 * x.wt := by
  obtain ⟨z0, z1, z2, z3, z4, z5⟩ := x
  rw [FFunc.c_eq, FFunc.wt_eq]
  simp only [scnt]
  have b1 := cntb_ParamS z1
  have b2 := cntb_ParamS z2
  have b3 := cntb_StringS z3
  have b5 := cntb_InsS z5
  omega
def MarkFunc (x : FFunc) : Prop := ∀ (us : List Value) (k0 : Int) (F : List Nat) (w : World), 1 ≤ k0 → k0 + (scnt x.c : Int) ≤ 1000000000000 → F.Nodup → OwnL w x.c F us → Calls Try.prog 14 #[.agg us.toArray, .int .i64 k0] w fun e w' => e = .returned (.int .i64 (k0 + (scnt x.c : Int))) ∧ OwnL w' (smk x.c k0) F us ∧ OnlyF F w w'
set_option maxHeartbeats 1000000 in
theorem markFunc_of (z0 : ByteArray) (z1 : List FParam) (z2 : List FParam) (z3 : List FStr) (z4 : Bool) (z5 : List FIns) (h1 : MarkParamS z1) (h2 : MarkParamS z2) (h3 : MarkStringS z3) (h5 : MarkInsS z5) : MarkFunc ⟨z0, z1, z2, z3, z4, z5⟩ := by
  intro us k0 F w hq1_ hq2_ hF hO
  obtain ⟨N1, hN1⟩ : ∃ N : Nat, N = cntL (FParam.flat z1) := ⟨_, rfl⟩
  obtain ⟨N2, hN2⟩ : ∃ N : Nat, N = cntL (FParam.flat z2) := ⟨_, rfl⟩
  obtain ⟨N3, hN3⟩ : ∃ N : Nat, N = cntL (FStr.flat z3) := ⟨_, rfl⟩
  obtain ⟨N5, hN5⟩ : ∃ N : Nat, N = cntL (FIns.flat z5) := ⟨_, rfl⟩
  have hsc : scnt (FFunc.c ⟨z0, z1, z2, z3, z4, z5⟩) = N1 + N2 + N3 + N5 := by
    rw [FFunc.c_eq]
    simp only [scnt]
    omega
  rw [hsc] at hq2_ ⊢
  obtain ⟨k1_, hk1⟩ : ∃ k : Int, k = k0 + (N1 : Int) := ⟨_, rfl⟩
  obtain ⟨k2_, hk2⟩ : ∃ k : Int, k = k1_ + (N2 : Int) := ⟨_, rfl⟩
  obtain ⟨k3_, hk3⟩ : ∃ k : Int, k = k2_ + (N3 : Int) := ⟨_, rfl⟩
  obtain ⟨k5_, hk5⟩ : ∃ k : Int, k = k3_ + (N5 : Int) := ⟨_, rfl⟩
  have hsm : smk (FFunc.c ⟨z0, z1, z2, z3, z4, z5⟩) k0 = [.v (.string z0), .s 56 2 z1.length (mkL (FParam.flat z1) (k0)), .s 56 2 z2.length (mkL (FParam.flat z2) (k1_)), .s 9 1 z3.length (mkL (FStr.flat z3) (k2_)), .v (.bool z4), .s 48 5 z5.length (mkL (FIns.flat z5) (k3_))] := by
    rw [FFunc.c_eq]
    rw [smk_v]
    rw [smk_s k1_ (by rw [← hN1]; exact hk1)]
    rw [smk_s k2_ (by rw [← hN2]; exact hk2)]
    rw [smk_s k3_ (by rw [← hN3]; exact hk3)]
    rw [smk_v]
    rw [smk_s k5_ (by rw [← hN5]; exact hk5)]
    rfl
  rw [hsm]
  have hfin : k0 + ((N1 + N2 + N3 + N5 : Nat) : Int) = k5_ := by omega
  rw [hfin]
  rw [FFunc.c_eq] at hO
  have hr := hO.vs
  obtain ⟨us0, rfl, hr_0⟩ := hr.unv
  obtain ⟨A1, c1, us1, rfl, r1, hr_1⟩ := hr_0.uns
  obtain ⟨A2, c2, us2, rfl, r2, hr_2⟩ := hr_1.uns
  obtain ⟨A3, c3, us3, rfl, r3, hr_3⟩ := hr_2.uns
  obtain ⟨us4, rfl, hr_4⟩ := hr_3.unv
  obtain ⟨A5, c5, us5, rfl, r5, hr_5⟩ := hr_4.uns
  obtain rfl := hr_5.un0
  clear hsc hsm hr hr_0 hr_1 hr_2 hr_3 hr_4 hr_5 r1 r2 r3 r5
  have hp1 : 1 ≤ k1_ := by omega
  have hp2 : 1 ≤ k2_ := by omega
  have hp3 : 1 ≤ k3_ := by omega
  have hp5 : 1 ≤ k5_ := by omega
  have H1 := Lib.hid h1
  clear h1
  have H2 := Lib.hid h2
  clear h2
  have H3 := Lib.hid h3
  clear h3
  have H5 := Lib.hid h5
  clear h5
  have hb1 : k1_ + ((N2 + N3 + N5 : Nat) : Int) ≤ 1000000000000 := by omega
  have hb2 : k2_ + ((N3 + N5 : Nat) : Int) ≤ 1000000000000 := by omega
  have hb3 : k3_ + ((N5 : Nat) : Int) ≤ 1000000000000 := by omega
  have hb5 : k5_ + ((0 : Nat) : Int) ≤ 1000000000000 := by omega
  have HN1 := Lib.hid hN1
  have HK1 := Lib.hid hk1
  clear hN1 hk1
  have HN2 := Lib.hid hN2
  have HK2 := Lib.hid hk2
  clear hN2 hk2
  have HN3 := Lib.hid hN3
  have HK3 := Lib.hid hk3
  clear hN3 hk3
  have HN5 := Lib.hid hN5
  have HK5 := Lib.hid hk5
  clear hN5 hk5
  clear hfin
  have HO := Lib.hid hO
  clear hO
  go_enter Try.func14, Try.ntmps14
  go_wp2_with fail
  refine calls_worldD _ (fun X => Blk X w.heap.size 32 #[.string z0, .slice A1 z1.length c1, .slice A2 z2.length c2, .slice A3 z3.length c3, .bool z4, .slice A5 z5.length c5] ∧ OwnL X [.v (.string z0), .s 56 2 z1.length (FParam.flat z1), .s 56 2 z2.length (FParam.flat z2), .s 9 1 z3.length (FStr.flat z3), .v (.bool z4), .s 48 5 z5.length (FIns.flat z5)] F [.string z0, .slice A1 z1.length c1, .slice A2 z2.length c2, .slice A3 z3.length c3, .bool z4, .slice A5 z5.length c5] ∧ OnlyF F w X ∧ w.heap.size < X.heap.size) ⟨Blk.new w _ _, OwnL.keep _ _ _ HO.out fun g hg => Below.heap_alloc _ _ _ (OwnL.lt _ _ _ HO.out g hg), (OnlyF.refl _ _).alloc _, by simp⟩ ?_
  rintro X0 ⟨ba, hO, hG, hs⟩
  obtain ⟨Fm, hm, hsub, hnd, hback⟩ := OwnL.sub (D := [.v (.string z0)]) (M := [.s 56 2 z1.length (FParam.flat z1)]) (R := [.s 56 2 z2.length (FParam.flat z2), .s 9 1 z3.length (FStr.flat z3), .v (.bool z4), .s 48 5 z5.length (FIns.flat z5)]) (u1 := [.string z0]) (um := [.slice A1 z1.length c1]) (u3 := [.slice A2 z2.length c2, .slice A3 z3.length c3, .bool z4, .slice A5 z5.length c5]) hO hF rfl rfl
  have hcall := H1.out _ (k0) Fm X0 (by omega) (by rw [← HN1.out]; omega) hnd hm.unone
  rw [← HN1.out, ← HK1.out] at hcall
  refine hcall.mono ?_
  clear hcall
  rintro e Y0 ⟨rfl, own, hon⟩
  have hlt := OwnL.lt _ _ _ hO
  have hFl : w.heap.size ∉ F := fun e => by have := OwnL.lt _ _ _ HO.out _ e; omega
  replace hO := hback Y0 [.s 56 2 z1.length (mkL (FParam.flat z1) (k0))] (OwnL.one own) (fun b hb hnb => hon.block b (hlt b hb) hnb)
  replace ba : Blk Y0 w.heap.size 32 #[.string z0, .slice A1 z1.length c1, .slice A2 z2.length c2, .slice A3 z3.length c3, .bool z4, .slice A5 z5.length c5] := (hon.block _ ba.lt (fun e => hFl (hsub _ e))).trans ba
  replace hG := OnlyF.call hG hon hsub
  replace hs : w.heap.size < Y0.heap.size := Nat.lt_of_lt_of_le hs hon.size
  clear own hon hm hsub hnd hback hlt hFl
  have ba_0 : Y0.cell? ⟨w.heap.size, 0, none⟩ = some (.string z0) := ba.cell 0
  have ba_1 : Y0.cell? ⟨w.heap.size, 1, none⟩ = some (.slice A1 z1.length c1) := ba.cell 1
  have ba_2 : Y0.cell? ⟨w.heap.size, 2, none⟩ = some (.slice A2 z2.length c2) := ba.cell 2
  have ba_3 : Y0.cell? ⟨w.heap.size, 3, none⟩ = some (.slice A3 z3.length c3) := ba.cell 3
  have ba_4 : Y0.cell? ⟨w.heap.size, 4, none⟩ = some (.bool z4) := ba.cell 4
  have ba_5 : Y0.cell? ⟨w.heap.size, 5, none⟩ = some (.slice A5 z5.length c5) := ba.cell 5
  have ba_l := ba.lt
  go_wp2_with fail
  refine calls_worldD _ (fun X => Blk X w.heap.size 32 #[.string z0, .slice A1 z1.length c1, .slice A2 z2.length c2, .slice A3 z3.length c3, .bool z4, .slice A5 z5.length c5] ∧ OwnL X [.v (.string z0), .s 56 2 z1.length (mkL (FParam.flat z1) (k0)), .s 56 2 z2.length (FParam.flat z2), .s 9 1 z3.length (FStr.flat z3), .v (.bool z4), .s 48 5 z5.length (FIns.flat z5)] F [.string z0, .slice A1 z1.length c1, .slice A2 z2.length c2, .slice A3 z3.length c3, .bool z4, .slice A5 z5.length c5] ∧ OnlyF F w X ∧ w.heap.size < X.heap.size) ⟨ba, hO, hG, hs⟩ ?_
  clear ba hO hG hs ba_0 ba_1 ba_2 ba_3 ba_4 ba_5 ba_l
  rintro X1 ⟨ba, hO, hG, hs⟩
  obtain ⟨Fm, hm, hsub, hnd, hback⟩ := OwnL.sub (D := [.v (.string z0), .s 56 2 z1.length (mkL (FParam.flat z1) (k0))]) (M := [.s 56 2 z2.length (FParam.flat z2)]) (R := [.s 9 1 z3.length (FStr.flat z3), .v (.bool z4), .s 48 5 z5.length (FIns.flat z5)]) (u1 := [.string z0, .slice A1 z1.length c1]) (um := [.slice A2 z2.length c2]) (u3 := [.slice A3 z3.length c3, .bool z4, .slice A5 z5.length c5]) hO hF rfl rfl
  have hcall := H2.out _ (k1_) Fm X1 (by omega) (by rw [← HN2.out]; omega) hnd hm.unone
  rw [← HN2.out, ← HK2.out] at hcall
  refine hcall.mono ?_
  clear hcall
  rintro e Y1 ⟨rfl, own, hon⟩
  have hlt := OwnL.lt _ _ _ hO
  have hFl : w.heap.size ∉ F := fun e => by have := OwnL.lt _ _ _ HO.out _ e; omega
  replace hO := hback Y1 [.s 56 2 z2.length (mkL (FParam.flat z2) (k1_))] (OwnL.one own) (fun b hb hnb => hon.block b (hlt b hb) hnb)
  replace ba : Blk Y1 w.heap.size 32 #[.string z0, .slice A1 z1.length c1, .slice A2 z2.length c2, .slice A3 z3.length c3, .bool z4, .slice A5 z5.length c5] := (hon.block _ ba.lt (fun e => hFl (hsub _ e))).trans ba
  replace hG := OnlyF.call hG hon hsub
  replace hs : w.heap.size < Y1.heap.size := Nat.lt_of_lt_of_le hs hon.size
  clear own hon hm hsub hnd hback hlt hFl
  have ba_0 : Y1.cell? ⟨w.heap.size, 0, none⟩ = some (.string z0) := ba.cell 0
  have ba_1 : Y1.cell? ⟨w.heap.size, 1, none⟩ = some (.slice A1 z1.length c1) := ba.cell 1
  have ba_2 : Y1.cell? ⟨w.heap.size, 2, none⟩ = some (.slice A2 z2.length c2) := ba.cell 2
  have ba_3 : Y1.cell? ⟨w.heap.size, 3, none⟩ = some (.slice A3 z3.length c3) := ba.cell 3
  have ba_4 : Y1.cell? ⟨w.heap.size, 4, none⟩ = some (.bool z4) := ba.cell 4
  have ba_5 : Y1.cell? ⟨w.heap.size, 5, none⟩ = some (.slice A5 z5.length c5) := ba.cell 5
  have ba_l := ba.lt
  go_wp2_with fail
  refine calls_worldD _ (fun X => Blk X w.heap.size 32 #[.string z0, .slice A1 z1.length c1, .slice A2 z2.length c2, .slice A3 z3.length c3, .bool z4, .slice A5 z5.length c5] ∧ OwnL X [.v (.string z0), .s 56 2 z1.length (mkL (FParam.flat z1) (k0)), .s 56 2 z2.length (mkL (FParam.flat z2) (k1_)), .s 9 1 z3.length (FStr.flat z3), .v (.bool z4), .s 48 5 z5.length (FIns.flat z5)] F [.string z0, .slice A1 z1.length c1, .slice A2 z2.length c2, .slice A3 z3.length c3, .bool z4, .slice A5 z5.length c5] ∧ OnlyF F w X ∧ w.heap.size < X.heap.size) ⟨ba, hO, hG, hs⟩ ?_
  clear ba hO hG hs ba_0 ba_1 ba_2 ba_3 ba_4 ba_5 ba_l
  rintro X2 ⟨ba, hO, hG, hs⟩
  obtain ⟨Fm, hm, hsub, hnd, hback⟩ := OwnL.sub (D := [.v (.string z0), .s 56 2 z1.length (mkL (FParam.flat z1) (k0)), .s 56 2 z2.length (mkL (FParam.flat z2) (k1_))]) (M := [.s 9 1 z3.length (FStr.flat z3)]) (R := [.v (.bool z4), .s 48 5 z5.length (FIns.flat z5)]) (u1 := [.string z0, .slice A1 z1.length c1, .slice A2 z2.length c2]) (um := [.slice A3 z3.length c3]) (u3 := [.bool z4, .slice A5 z5.length c5]) hO hF rfl rfl
  have hcall := H3.out _ (k2_) Fm X2 (by omega) (by rw [← HN3.out]; omega) hnd hm.unone
  rw [← HN3.out, ← HK3.out] at hcall
  refine hcall.mono ?_
  clear hcall
  rintro e Y2 ⟨rfl, own, hon⟩
  have hlt := OwnL.lt _ _ _ hO
  have hFl : w.heap.size ∉ F := fun e => by have := OwnL.lt _ _ _ HO.out _ e; omega
  replace hO := hback Y2 [.s 9 1 z3.length (mkL (FStr.flat z3) (k2_))] (OwnL.one own) (fun b hb hnb => hon.block b (hlt b hb) hnb)
  replace ba : Blk Y2 w.heap.size 32 #[.string z0, .slice A1 z1.length c1, .slice A2 z2.length c2, .slice A3 z3.length c3, .bool z4, .slice A5 z5.length c5] := (hon.block _ ba.lt (fun e => hFl (hsub _ e))).trans ba
  replace hG := OnlyF.call hG hon hsub
  replace hs : w.heap.size < Y2.heap.size := Nat.lt_of_lt_of_le hs hon.size
  clear own hon hm hsub hnd hback hlt hFl
  have ba_0 : Y2.cell? ⟨w.heap.size, 0, none⟩ = some (.string z0) := ba.cell 0
  have ba_1 : Y2.cell? ⟨w.heap.size, 1, none⟩ = some (.slice A1 z1.length c1) := ba.cell 1
  have ba_2 : Y2.cell? ⟨w.heap.size, 2, none⟩ = some (.slice A2 z2.length c2) := ba.cell 2
  have ba_3 : Y2.cell? ⟨w.heap.size, 3, none⟩ = some (.slice A3 z3.length c3) := ba.cell 3
  have ba_4 : Y2.cell? ⟨w.heap.size, 4, none⟩ = some (.bool z4) := ba.cell 4
  have ba_5 : Y2.cell? ⟨w.heap.size, 5, none⟩ = some (.slice A5 z5.length c5) := ba.cell 5
  have ba_l := ba.lt
  go_wp2_with fail
  refine calls_worldD _ (fun X => Blk X w.heap.size 32 #[.string z0, .slice A1 z1.length c1, .slice A2 z2.length c2, .slice A3 z3.length c3, .bool z4, .slice A5 z5.length c5] ∧ OwnL X [.v (.string z0), .s 56 2 z1.length (mkL (FParam.flat z1) (k0)), .s 56 2 z2.length (mkL (FParam.flat z2) (k1_)), .s 9 1 z3.length (mkL (FStr.flat z3) (k2_)), .v (.bool z4), .s 48 5 z5.length (FIns.flat z5)] F [.string z0, .slice A1 z1.length c1, .slice A2 z2.length c2, .slice A3 z3.length c3, .bool z4, .slice A5 z5.length c5] ∧ OnlyF F w X ∧ w.heap.size < X.heap.size) ⟨ba, hO, hG, hs⟩ ?_
  clear ba hO hG hs ba_0 ba_1 ba_2 ba_3 ba_4 ba_5 ba_l
  rintro X3 ⟨ba, hO, hG, hs⟩
  obtain ⟨Fm, hm, hsub, hnd, hback⟩ := OwnL.sub (D := [.v (.string z0), .s 56 2 z1.length (mkL (FParam.flat z1) (k0)), .s 56 2 z2.length (mkL (FParam.flat z2) (k1_)), .s 9 1 z3.length (mkL (FStr.flat z3) (k2_)), .v (.bool z4)]) (M := [.s 48 5 z5.length (FIns.flat z5)]) (R := []) (u1 := [.string z0, .slice A1 z1.length c1, .slice A2 z2.length c2, .slice A3 z3.length c3, .bool z4]) (um := [.slice A5 z5.length c5]) (u3 := []) hO hF rfl rfl
  have hcall := H5.out _ (k3_) Fm X3 (by omega) (by rw [← HN5.out]; omega) hnd hm.unone
  rw [← HN5.out, ← HK5.out] at hcall
  refine hcall.mono ?_
  clear hcall
  rintro e Y3 ⟨rfl, own, hon⟩
  have hlt := OwnL.lt _ _ _ hO
  have hFl : w.heap.size ∉ F := fun e => by have := OwnL.lt _ _ _ HO.out _ e; omega
  replace hO := hback Y3 [.s 48 5 z5.length (mkL (FIns.flat z5) (k3_))] (OwnL.one own) (fun b hb hnb => hon.block b (hlt b hb) hnb)
  replace ba : Blk Y3 w.heap.size 32 #[.string z0, .slice A1 z1.length c1, .slice A2 z2.length c2, .slice A3 z3.length c3, .bool z4, .slice A5 z5.length c5] := (hon.block _ ba.lt (fun e => hFl (hsub _ e))).trans ba
  replace hG := OnlyF.call hG hon hsub
  replace hs : w.heap.size < Y3.heap.size := Nat.lt_of_lt_of_le hs hon.size
  clear own hon hm hsub hnd hback hlt hFl
  have ba_0 : Y3.cell? ⟨w.heap.size, 0, none⟩ = some (.string z0) := ba.cell 0
  have ba_1 : Y3.cell? ⟨w.heap.size, 1, none⟩ = some (.slice A1 z1.length c1) := ba.cell 1
  have ba_2 : Y3.cell? ⟨w.heap.size, 2, none⟩ = some (.slice A2 z2.length c2) := ba.cell 2
  have ba_3 : Y3.cell? ⟨w.heap.size, 3, none⟩ = some (.slice A3 z3.length c3) := ba.cell 3
  have ba_4 : Y3.cell? ⟨w.heap.size, 4, none⟩ = some (.bool z4) := ba.cell 4
  have ba_5 : Y3.cell? ⟨w.heap.size, 5, none⟩ = some (.slice A5 z5.length c5) := ba.cell 5
  have ba_l := ba.lt
  go_wp2_with fail
  go_ret
  exact ⟨rfl, hO, hG⟩
theorem markFunc_any (x : FFunc) : MarkFunc x := by
  obtain ⟨z0, z1, z2, z3, z4, z5⟩ := x
  exact markFunc_of z0 z1 z2 z3 z4 z5 (markParamS_any z1) (markParamS_any z2) (markStringS_any z3) (markInsS_any z5)
theorem markFunc_I (x : FFunc) (us : List Value) (k0 : Int) (lo hi : Nat) (w : World) (h1 : 1 ≤ k0) (h2 : k0 + (scnt x.c : Int) ≤ 1000000000000) (h : OwnI w lo hi x.c us) :
    Calls Try.prog 14 #[.agg us.toArray, .int .i64 k0] w fun e w' => e = .returned (.int .i64 (k0 + (scnt x.c : Int))) ∧ OwnI w' lo hi (smk x.c k0) us ∧ Only lo hi w.heap.size w w' := by
  obtain ⟨F, a1, a2, a3⟩ := h
  exact (markFunc_any x us k0 F w h1 h2 a2 a1).mono fun e w' ⟨h3, h4, h5⟩ => ⟨h3, own_interval a2 a3 h4 h5⟩
end Go.Proofs.Ythkmfdjkldipjaa
